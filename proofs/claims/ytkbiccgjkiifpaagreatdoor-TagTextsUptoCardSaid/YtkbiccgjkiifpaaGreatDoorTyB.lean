/- The reference's reader of texts. Conditions: the model yields a value. -/
import Derived.Test.YtkbiccgjkiifpaaGreatDoorKXw
import Derived.Test.YtkbiccgjkiifpaaGreatDoorMd
set_option linter.unusedVariables false
namespace Go.Proofs.YtkbiccgjkiifpaaGreatDoor
open Go Go.Vc Go.Md Go.M Go.Lx
set_option maxRecDepth 100000
set_option maxHeartbeats 400000
theorem imp_upTN {v : Value} {xs : List Ta} : ∀ {d d' : Nat}, d ≤ d' → Imp (Yw d v xs) (Yw d' v xs) := by
  intro d d' h
  induction h with
  | refl => exact Imp.refl _
  | step _ ih => exact Xe ih Jg3
theorem imp_upFN {v : Value} {ls : List (List Ta)} : ∀ {d d' : Nat}, d ≤ d' → Imp (Jbn d v ls) (Jbn d' v ls) := by
  intro d d' h
  induction h with
  | refl => exact Imp.refl _
  | step _ ih => exact Xe ih Jjl
theorem k10 {s0 : List UInt8} {r : Td × Int × Int} {w : World} {h : Jw} (hw : Know h w Ys) (H : V8 s0 = some r) :
    Does Tryz.prog 10 (List.toArray [str s0]) w (fun v w' => ∃ x : (Option Addr × Nat), v = (.tuple #[.agg #[.bool r.1.Big, .slice x.1 r.1.kag.length x.2], .int .i64 r.2.1, .int .i64 r.2.2]) ∧ Turn w w' Ys (Jd4 Wa (fun hp_ => FrN hp_ 1 (.slice x.1 r.1.kag.length x.2) gs_tag_Entry r.1.kag))) := by
 unfold V8 at H
 refine enter (n := 154) Tryz.func10 rfl rfl rfl Ys [] (Sat.nil _ _) ?_
 have err : ∀ {n t : Int} {b2 : Nat} {e : Xl} {fn : Func} {rest}, fn.results = #[.cell 2 24, .tmp 3, .tmp 4] → r = (noF, n, t) → e 2 = pz b2 → e 3 = .int .i64 n → e 4 = .int .i64 t → At ⟨w, Ys⟩ (Jfh Tryz.prog fn (fun v w' => ∃ x : (Option Addr × Nat), v = (.tuple #[.agg #[.bool r.1.Big, .slice x.1 r.1.kag.length x.2], .int .i64 r.2.1, .int .i64 r.2.2]) ∧ Turn w w' Ys (Jd4 Wa (fun hp_ => FrN hp_ 1 (.slice x.1 r.1.kag.length x.2) gs_tag_Entry r.1.kag))) .ret) e (Jn b2 [.bool false, z0s] 24 :: rest) := fun {n t b2 e fn rest} hfn hr h2 h3 h4 => by
   subst hr
   refine Jed ?_
   have e1 : (Jn b2 [.bool false, z0s] 24 :: rest ++ [empC])[rest.length + 1]? = some empC := by
    rw [List.getElem?_append_right (by simp)]; simp
   refine J1 (rest.length + 1) e1 (Ji5 (Φ := fun hp_ => FrN hp_ 1 (z0s) gs_tag_Entry []) frn_none) ?_
   exact retCtt (i := 0) (vs := [.bool false, z0s]) (v2 := .int .i64 n) (v3 := .int .i64 t) Tryz.isAgg24 Tryz.sizeOf24 hfn h2 (by rw [List.getElem?_set_ne (by omega)]; rfl) rfl h3 h4 (Yg ((none, 0) : Option Addr × Nat) (i := rest.length + 1) (List.getElem?_set_self (by simp)) rfl (Imp.refl _))
 refine Jc ?_
 refine Ja ?_
 refine Xi (cs := [.bool false, z0s]) Tryz.zeroValue24 rfl rfl rfl (fun b2 => ?_)
 refine Jf rfl rfl rfl (Jg (v := .int .i64 0) rfl) ?_
 refine Jf rfl rfl rfl (Jg (v := .int .i64 0) rfl) ?_
 refine Jd ?_
 refine Jc ?_
 refine Jc ?_
 refine Ja ?_
 refine Jf rfl rfl rfl (Jk (v := str s0) rfl) ?_
 refine Jf rfl rfl rfl (Xc Tryz.underlying9 rfl) ?_
 refine Jf rfl rfl rfl (Ye rfl rfl) ?_
 refine Jd ?_
 refine Jak (b := (decide (1000000 < (s0.length : Int)))) rfl (fun hb => ?_) (fun hb => ?_)
 ·have H1 := Xn hb H
  refine Jc ?_
  refine Ja ?_
  refine Q0 (i := 0) (vs := [.bool false, z0s]) Tryz.isAgg24 Tryz.sizeOf24 rfl rfl rfl rfl rfl ?_
  refine Qu (i := 0) (vs := [.bool false, z0s]) (cs' := [.bool false, z0s]) Tryz.sizeOf24 rfl rfl rfl rfl rfl rfl rfl rfl rfl ?_
  refine Jf rfl rfl rfl (Jg (v := .int .i64 0) rfl) ?_
  refine Jf rfl rfl rfl (Jg (v := .int .i64 4) rfl) ?_
  refine Jd ?_
  refine Ji ?_
  exact err rfl (Option.some.inj H1).symm rfl rfl rfl
 ·have H1 := Xg hb H
  clear H
  obtain ⟨ls, h_ls, H2⟩ := Je H1
  obtain ⟨q, h_q, H3⟩ := Je H2
  obtain ⟨last, h_last, H4⟩ := Je H3
  obtain ⟨l0, h_l0, H5⟩ := Je H4
  obtain ⟨lines, h_lines, H6⟩ := Je H5
  clear H1 H2 H3 H4 H5
  refine Jh ?_
  refine Jc ?_
  refine Ja ?_
  refine Jf rfl rfl rfl (Jk (v := str s0) rfl) ?_
  refine Zy (Xr (rds := []) (G := fun x : Option Addr × Nat => .slice x.1 ls.length x.2) (C := fun x : Option Addr × Nat => J3 9 1 (.slice x.1 ls.length x.2) ls.length (ls.map Jz)) (fun w L' hF hS hi => k27 (Ju w) h_ls) Tryz.call27 rfl) rfl rfl rfl (fun pl => ?_)
  refine Jf rfl rfl rfl (Yi (pl := #[(0, 1), (1, 1)]) (ps := [(0, (.slice pl.1 ls.length pl.2))]) (cells := #[(.slice pl.1 ls.length pl.2), .int .i64 0]) Tryz.zeroValue65 Tryz.runUnderlying65 (fun w => by kernel_rfl) rfl (by kernel_rfl)) ?_
  refine Vv (cs := [(.slice pl.1 ls.length pl.2), .int .i64 0]) rfl rfl rfl rfl (fun pb => ?_)
  refine Jf rfl rfl rfl (Jg (v := pz pb) rfl) ?_
  refine Jd ?_
  try dsimp only [z1, z2, z3, z4, z5, z6, z7, z8]
  refine Jc ?_
  refine Qv (Kd.p :: Kd.p :: Kd.p :: Kd.d [2] (.slice pl.1 ls.length pl.2) :: Kd.p :: Kd.p :: Kd.p :: Kd.d [2] (.slice pl.1 ls.length pl.2) :: Kd.p :: Kd.p :: Kd.d [1] (X1 pl.1 (Int.toNat q * 1)) :: Kd.d [1] (str last) :: Kd.p :: []) 0 mixed ?_ (by kernel_rfl)
  refine Jq rfl rfl (Jk (v := pz pb) rfl) ?_
  refine Jq rfl rfl (Jm rfl) ?_
  refine Jq rfl rfl (Jr Tryz.runUnderlying65 rfl Tryz.sizeOf31 rfl rfl) ?_
  refine X9 (i := 2) (v := (.slice pl.1 ls.length pl.2)) Tryz.isAgg31 rfl rfl rfl rfl ?_
  refine Jq rfl rfl (Jk (v := pz pb) rfl) ?_
  refine Jq rfl rfl (Jm rfl) ?_
  refine Jq rfl rfl (Jr Tryz.runUnderlying65 rfl Tryz.sizeOf31 rfl rfl) ?_
  refine X9 (i := 2) (v := (.slice pl.1 ls.length pl.2)) Tryz.isAgg31 rfl rfl rfl rfl ?_
  refine Jq rfl rfl (Wl Tryz.underlying31 rfl) ?_
  refine Jq rfl rfl (Vh rfl rfl h_q) ?_
  refine Ya (fun w L' hF hS hi => Qx Tryz.underlying31 Tryz.sizeOf9 rfl rfl (Xd (i := 1) (E := 9) (sz := 1) (n := ls.length) (a := pl.1) (c := pl.2) hS ((hi 1 (by simp)).trans rfl)) rfl h_last) rfl rfl ?_
  refine Ya (fun w L' hF hS hi => Qb (f := Jz) (i := q) (sz := 1) (j := 0) (v := str last) Tryz.isAgg9 rfl rfl (Xd (i := 1) (E := 9) (sz := 1) (n := ls.length) (a := pl.1) (c := pl.2) hS ((hi 1 (by simp)).trans rfl)) h_last rfl) rfl rfl ?_
  refine Jq rfl rfl (Jg (v := str last) rfl) ?_
  refine X6 ?_
  try dsimp only [z1, z2, z3, z4, z5, z6, z7, z8]
  refine Jc ?_
  refine Qv (Kd.p :: Kd.p :: Kd.p :: Kd.p :: Kd.d [2] (.slice pl.1 ls.length pl.2) :: Kd.p :: Kd.p :: Kd.p :: Kd.d [2] (.slice pl.1 ls.length pl.2) :: Kd.p :: Kd.p :: Kd.d [1] (.slice pl.1 l0.length pl.2) :: Kd.p :: Kd.p :: Kd.st 43 2 [(.slice pl.1 l0.length pl.2), .int .i64 0] 65 :: []) 0 mixed ?_ (by kernel_rfl)
  refine Jq rfl rfl (Jk (v := pz pb) rfl) ?_
  refine Jq rfl rfl (Jk (v := pz pb) rfl) ?_
  refine Jq rfl rfl (Jm rfl) ?_
  refine Jq rfl rfl (Jr Tryz.runUnderlying65 rfl Tryz.sizeOf31 rfl rfl) ?_
  refine X9 (i := 2) (v := (.slice pl.1 ls.length pl.2)) Tryz.isAgg31 rfl rfl rfl rfl ?_
  refine Jq rfl rfl (Jk (v := pz pb) rfl) ?_
  refine Jq rfl rfl (Jm rfl) ?_
  refine Jq rfl rfl (Jr Tryz.runUnderlying65 rfl Tryz.sizeOf31 rfl rfl) ?_
  refine X9 (i := 2) (v := (.slice pl.1 ls.length pl.2)) Tryz.isAgg31 rfl rfl rfl rfl ?_
  refine Jq rfl rfl (Wl Tryz.underlying31 rfl) ?_
  refine Jq rfl rfl (Vh rfl rfl h_q) ?_
  refine Ya (v := .slice pl.1 l0.length pl.2) (fun w L' hF hS hi => (Ji4 (xs := ls) Tryz.underlying31 Tryz.sizeOf9 rfl rfl rfl (Jdt (i := 1) hS ((hi 1 (by simp)).trans rfl)) h_l0).trans (by rw [show (0 : Int).toNat = 0 from rfl, Jgw, Nat.sub_zero])) rfl rfl ?_
  refine Jq rfl rfl (Jm rfl) ?_
  refine Jq rfl rfl (Jr Tryz.runUnderlying65 rfl Tryz.sizeOf31 rfl rfl) ?_
  refine Jgz (i := 2) (vs := [(.slice pl.1 l0.length pl.2)]) (cs' := [(.slice pl.1 l0.length pl.2), .int .i64 0]) Tryz.sizeOf31 rfl rfl rfl rfl rfl rfl rfl rfl rfl ?_
  refine X6 ?_
  try dsimp only [z1, z2, z3, z4, z5, z6, z7, z8]
  have hcut : ls = l0 ++ [last] := by
   obtain ⟨xs0, x', rfl⟩ := Jft (xs := ls) (by obtain ⟨_, h2, _⟩ := Vn h_last; omega)
   have hq : q = ((xs0 ++ [x']).length : Int) - 1 := (Jd7 h_q).1
   obtain rfl := Jhs hq h_last
   obtain rfl := gCut_init hq h_l0
   rfl
  refine J1 1 rfl (Xe (Imp.of (show J3 9 1 (.slice pl.1 ls.length pl.2) ls.length (ls.map Jz) = J3 9 1 (.slice pl.1 ls.length pl.2) ls.length (l0.map Jz ++ [last].map Jz) from by rw [hcut, List.map_append])) (Xe Jkp (Imp.of (show _ = J3 9 1 (.slice pl.1 l0.length pl.2) l0.length (l0.map Jz) from by rw [List.length_map])))) ?_
  try dsimp only [z1, z2, z3, z4, z5, z6, z7, z8]
  refine Qe (r := r) (σ := List (List UInt8)) (τ := Option Addr × Nat) (fun s => Jdh s) (fun s t => [(2, pz b2), (5, pz pb)]) (fun s t => [Jn b2 [.bool false, z0s] 24, Jn pb [.slice t.1 s.length t.2, .int .i64 0] 65, J3 9 1 (.slice t.1 s.length t.2) s.length (s.map Jz)]) (fun s t => True) ?_ ?_
  ·refine Jc ?_
   refine Ja ?_
   refine Jf rfl rfl rfl (Jk (v := str last) rfl) ?_
   refine Jf rfl rfl rfl (Ja3 rfl rfl) ?_
   refine Jd ?_
   refine Jak (b := decide (last ≠ [])) rfl (fun hb1 => ?_) (fun hb1 => ?_)
   ·obtain ⟨u, h_u, h_app⟩ := Je (Xn hb1 h_lines)
    refine Ja ?_
    refine Jf rfl rfl rfl (Jk (v := pz pb) rfl) ?_
    refine Jf rfl rfl rfl (Jk (v := pz pb) rfl) ?_
    refine Jf rfl rfl rfl (Jm rfl) ?_
    refine Jf rfl rfl rfl (Jr Tryz.runUnderlying65 rfl Tryz.sizeOf31 rfl rfl) ?_
    refine Y7 (i := 2) (v := (.slice pl.1 l0.length pl.2)) Tryz.isAgg31 rfl rfl rfl rfl rfl ?_
    refine Jf rfl rfl rfl (Jk (v := str last) rfl) ?_
    refine Jf rfl rfl rfl (Qw rfl rfl h_u) ?_
    refine Q9 (vs := [str u]) (cs := [str u]) Tryz.underlying31 Tryz.sizeOf9 Tryz.zeroValue9 rfl rfl rfl rfl rfl rfl rfl (fun b7 => ?_)
    refine Q1 (Y0 (i := 1) (hn := rfl) (rds := [3]) (p := pl) (sz := 1) (by_ := 16) (f := Jz) (ys := l0) (ls := [u]) (V := .slice (some ⟨b7, 0, none⟩) 1 1) Tryz.underlying31 (Xv Tryz.typeInfo9) rfl rfl rfl rfl rfl rfl rfl rfl rfl rfl (fun w L' hF hS hi => W8 (i := 3) hS ((hi 3 (by simp)).trans rfl) rfl rfl) (fun _ => rfl) (fun _ => rfl) h_app) rfl rfl rfl (fun p3 => ?_)
    refine Jf rfl rfl rfl (Jm rfl) ?_
    refine Jf rfl rfl rfl (Jr Tryz.runUnderlying65 rfl Tryz.sizeOf31 rfl rfl) ?_
    refine Qu (i := 2) (vs := [.slice p3.1 lines.length p3.2]) (cs' := [.slice p3.1 lines.length p3.2, .int .i64 0]) Tryz.sizeOf31 rfl rfl rfl rfl rfl rfl rfl rfl rfl ?_
    refine Jd ?_
    try dsimp only [z1, z2, z3, z4, z5, z6, z7, z8]
    refine Ze lines p3 0 [0, 2, 1] (by exact ⟨rfl, rfl, trivial⟩) (by decide) (by kernel_rfl) (by exact ⟨H6, trivial⟩) (Nat.lt_succ_self _)
   ·obtain rfl := Option.some.inj (Xg hb1 h_lines)
    refine Jh ?_
    refine Ze l0 pl 0 [0, 2, 1] (by exact ⟨rfl, rfl, trivial⟩) (by decide) (by kernel_rfl) (by exact ⟨H6, trivial⟩) (Nat.lt_succ_self _)
  ·rintro ls1 pl gg H7 _
   replace H7 : Jdh ls1 = some r := H7
   clear H6 h_lines hcut h_l0 h_last h_q h_ls
   obtain ⟨lines, hlines⟩ : ∃ x, x = ls1 := ⟨_, rfl⟩
   subst hlines
   try dsimp only
   unfold Jdh at H7
   refine Qe (r := r) (σ := List UInt8) (τ := Unit) (fun hd => Yz (Jd5 lines (decide (hd = [98, 105, 103]))) (1, [])) (fun _ _ => [(2, pz b2), (5, pz pb)]) (fun _ _ => [Jn b2 [.bool false, z0s] 24, Jn pb [(.slice pl.1 lines.length pl.2), .int .i64 0] 65, J3 9 1 (.slice pl.1 lines.length pl.2) lines.length (lines.map Jz)]) (fun hd _ => Yv lines 0 = some hd) ?_ ?_
   ·refine Jc ?_
    refine Ja ?_
    refine Jf rfl rfl rfl (Jk (v := pz pb) rfl) ?_
    refine Jf rfl rfl rfl (Jm rfl) ?_
    refine Jf rfl rfl rfl (Jr Tryz.runUnderlying65 rfl Tryz.sizeOf31 rfl rfl) ?_
    refine Y7 (i := 1) (v := (.slice pl.1 lines.length pl.2)) Tryz.isAgg31 rfl rfl rfl rfl rfl ?_
    refine Jf rfl rfl rfl (Wl Tryz.underlying31 rfl) ?_
    refine Jf rfl rfl rfl (Qd rfl rfl) ?_
    refine Jf rfl rfl rfl (Jk (v := .bool (decide ((lines.length : Int) = 0))) rfl) ?_
    refine split (fun hb1 => ?_) (fun hb1 => ?_)
    ·have HH := Xn hb1 H7
     refine Jx rfl rfl rfl ?_
     refine Jx rfl rfl rfl ?_
     refine Jx rfl rfl rfl ?_
     refine Jx rfl rfl rfl ?_
     refine Jx rfl rfl rfl ?_
     refine Jx rfl rfl rfl ?_
     refine Jx rfl rfl rfl ?_
     refine Jx rfl rfl rfl ?_
     refine Jx rfl rfl rfl ?_
     refine Jx rfl rfl rfl ?_
     refine Jx rfl rfl rfl ?_
     refine Jx rfl rfl rfl ?_
     refine Jx rfl rfl rfl ?_
     refine Jx rfl rfl rfl ?_
     refine Jx rfl rfl rfl ?_
     refine Jx rfl rfl rfl ?_
     refine Jf rfl rfl rfl (Xp (v := .bool true) rfl rfl) ?_
     refine Jd ?_
     refine Yc rfl ?_
     refine Jc ?_
     refine Ja ?_
     refine Q0 (i := 0) (vs := [.bool false, z0s]) Tryz.isAgg24 Tryz.sizeOf24 rfl rfl rfl rfl rfl ?_
     refine Qu (i := 0) (vs := [.bool false, z0s]) (cs' := [.bool false, z0s]) Tryz.sizeOf24 rfl rfl rfl rfl rfl rfl rfl rfl rfl ?_
     refine Jf rfl rfl rfl (Jg (v := .int .i64 1) rfl) ?_
     refine Jf rfl rfl rfl (Jg (v := .int .i64 8) rfl) ?_
     refine Jd ?_
     refine Ji ?_
     exact err rfl (Option.some.inj HH).symm rfl rfl rfl
    ·have H8 := Xg hb1 H7
     obtain ⟨hd, h_hd, H9⟩ := Je H8
     clear H7 H8
     refine Jf rfl rfl rfl (Jk (v := pz pb) rfl) ?_
     refine Jf rfl rfl rfl (Jm rfl) ?_
     refine Jf rfl rfl rfl (Jr Tryz.runUnderlying65 rfl Tryz.sizeOf31 rfl rfl) ?_
     refine Y7 (i := 1) (v := (.slice pl.1 lines.length pl.2)) Tryz.isAgg31 rfl rfl rfl rfl rfl ?_
     refine Qf (fun w hF hS => Qx Tryz.underlying31 Tryz.sizeOf9 rfl rfl (Xd (i := 2) (E := 9) (sz := 1) (n := lines.length) (a := pl.1) (c := pl.2) hS rfl) rfl h_hd) rfl rfl rfl ?_
     refine Qf (fun w hF hS => Qb (f := Jz) (i := (0 : Int)) (sz := 1) (j := 0) (v := str hd) Tryz.isAgg9 rfl rfl (Xd (i := 2) (E := 9) (sz := 1) (n := lines.length) (a := pl.1) (c := pl.2) hS rfl) h_hd rfl) rfl rfl rfl ?_
     refine Jf rfl rfl rfl (Ja3 rfl rfl) ?_
     refine Jf rfl rfl rfl (Jk (v := .bool (decide (hd ≠ [108, 105, 116, 116, 108, 101]))) rfl) ?_
     refine split (fun hb2 => ?_) (fun hb2 => ?_)
     ·rw [hb2, Bool.true_and] at H9
      refine Jf rfl rfl rfl (Jk (v := pz pb) rfl) ?_
      refine Jf rfl rfl rfl (Jm rfl) ?_
      refine Jf rfl rfl rfl (Jr Tryz.runUnderlying65 rfl Tryz.sizeOf31 rfl rfl) ?_
      refine Y7 (i := 1) (v := (.slice pl.1 lines.length pl.2)) Tryz.isAgg31 rfl rfl rfl rfl rfl ?_
      refine Qf (fun w hF hS => Qx Tryz.underlying31 Tryz.sizeOf9 rfl rfl (Xd (i := 2) (E := 9) (sz := 1) (n := lines.length) (a := pl.1) (c := pl.2) hS rfl) rfl h_hd) rfl rfl rfl ?_
      refine Qf (fun w hF hS => Qb (f := Jz) (i := (0 : Int)) (sz := 1) (j := 0) (v := str hd) Tryz.isAgg9 rfl rfl (Xd (i := 2) (E := 9) (sz := 1) (n := lines.length) (a := pl.1) (c := pl.2) hS rfl) h_hd rfl) rfl rfl rfl ?_
      refine Jf rfl rfl rfl (Ja3 rfl rfl) ?_
      refine Jf rfl rfl rfl (Xp (v := .bool (decide (hd ≠ [98, 105, 103]))) rfl rfl) ?_
      refine Jf rfl rfl rfl (X4 (v := .bool (decide (hd ≠ [98, 105, 103]))) rfl rfl) ?_
      refine Jd ?_
      refine Jak (b := decide (hd ≠ [98, 105, 103])) rfl (fun hb3 => ?_) (fun hb3 => ?_)
      ·have HH := Xn hb3 H9
       refine Jc ?_
       refine Ja ?_
       refine Q0 (i := 0) (vs := [.bool false, z0s]) Tryz.isAgg24 Tryz.sizeOf24 rfl rfl rfl rfl rfl ?_
       refine Qu (i := 0) (vs := [.bool false, z0s]) (cs' := [.bool false, z0s]) Tryz.sizeOf24 rfl rfl rfl rfl rfl rfl rfl rfl rfl ?_
       refine Jf rfl rfl rfl (Jg (v := .int .i64 1) rfl) ?_
       refine Jf rfl rfl rfl (Jg (v := .int .i64 8) rfl) ?_
       refine Jd ?_
       refine Ji ?_
       exact err rfl (Option.some.inj HH).symm rfl rfl rfl
      ·have HH := Xg hb3 H9
       refine Jh ?_
       refine Ze hd () 0 [0, 1, 2] (by exact ⟨rfl, rfl, trivial⟩) (by decide) (by kernel_rfl) (by exact ⟨HH, h_hd⟩) (Nat.lt_succ_self _)
     ·rw [hb2, Bool.false_and] at H9
      have HH := Xg rfl H9
      refine Jx rfl rfl rfl ?_
      refine Jx rfl rfl rfl ?_
      refine Jx rfl rfl rfl ?_
      refine Jx rfl rfl rfl ?_
      refine Jx rfl rfl rfl ?_
      refine Jx rfl rfl rfl ?_
      refine Jx rfl rfl rfl ?_
      refine Jf rfl rfl rfl (X4 (v := .bool false) rfl rfl) ?_
      refine Jf rfl rfl rfl (X4 (v := .bool false) rfl rfl) ?_
      refine Jd ?_
      refine Zc rfl ?_
      refine Jh ?_
      refine Ze hd () 0 [0, 1, 2] (by exact ⟨rfl, rfl, trivial⟩) (by decide) (by kernel_rfl) (by exact ⟨HH, h_hd⟩) (Nat.lt_succ_self _)
   ·rintro hd _ gg1 H10 h_hd
    replace H10 : Yz (Jd5 lines (decide (hd = [98, 105, 103]))) (1, []) = some r := H10
    replace h_hd : Yv lines 0 = some hd := h_hd
    clear H7
    try dsimp only
    refine Jc ?_
    refine Ja ?_
    refine Jf rfl rfl rfl (Jk (v := pz pb) rfl) ?_
    refine Jf rfl rfl rfl (Jm rfl) ?_
    refine Jf rfl rfl rfl (Jr Tryz.runUnderlying65 rfl Tryz.sizeOf31 rfl rfl) ?_
    refine Y7 (i := 1) (v := (.slice pl.1 lines.length pl.2)) Tryz.isAgg31 rfl rfl rfl rfl rfl ?_
    refine Qf (fun w hF hS => Qx Tryz.underlying31 Tryz.sizeOf9 rfl rfl (Xd (i := 2) (E := 9) (sz := 1) (n := lines.length) (a := pl.1) (c := pl.2) hS rfl) rfl h_hd) rfl rfl rfl ?_
    refine Qf (fun w hF hS => Qb (f := Jz) (i := (0 : Int)) (sz := 1) (j := 0) (v := str hd) Tryz.isAgg9 rfl rfl (Xd (i := 2) (E := 9) (sz := 1) (n := lines.length) (a := pl.1) (c := pl.2) hS rfl) h_hd rfl) rfl rfl rfl ?_
    refine Jf rfl rfl rfl (Vl rfl rfl) ?_
    refine Jf rfl rfl rfl (Jr Tryz.runUnderlying24 rfl Tryz.sizeOf4 rfl rfl) ?_
    refine Qu (i := 0) (vs := [.bool (decide (hd = [98, 105, 103]))]) (cs' := [.bool (decide (hd = [98, 105, 103])), z0s]) Tryz.sizeOf4 rfl rfl rfl rfl rfl rfl rfl rfl rfl ?_
    refine Jd ?_
    generalize hbig : (decide (hd = [98, 105, 103])) = big at H10 ⊢
    try dsimp only [z1, z2, z3, z4, z5, z6, z7, z8]
    refine Jc ?_
    refine Jc ?_
    refine Ja ?_
    refine Jf rfl rfl rfl (Jk (v := pz pb) rfl) ?_
    refine Jf rfl rfl rfl (Jm rfl) ?_
    refine Jf rfl rfl rfl (Jr Tryz.runUnderlying65 rfl Tryz.sizeOf3 rfl rfl) ?_
    refine Qu (i := 1) (vs := [.int .i64 1]) (cs' := [(.slice pl.1 lines.length pl.2), .int .i64 1]) Tryz.sizeOf3 rfl rfl rfl rfl rfl rfl rfl rfl rfl ?_
    refine Jd ?_
    refine Jed ?_
    try dsimp only [z1, z2, z3, z4, z5, z6, z7, z8]
    refine J1 3 rfl (Jbh (Φ := fun h bs => TreeF 0 h (z0s) [] bs) ⟨[], [], ⟨by simp, .inl ⟨rfl, rfl⟩⟩, rfl, rfl⟩) ?_
    try dsimp only [z1, z2, z3, z4, z5, z6, z7, z8]
    refine Jp ?_
    refine Xu (σ := Int × List (List Ta)) (τ := Nat × (Option Addr × Nat) × (Option Addr × Nat)) (Jd5 lines big) (fun s t => [(2, pz b2), (5, pz pb)]) (fun s t => [Jn b2 [.bool big, .slice t.2.1.1 s.2.length t.2.1.2] 24, Jn pb [.slice t.2.2.1 lines.length t.2.2.2, .int .i64 s.1] 65, J3 9 1 (.slice t.2.2.1 lines.length t.2.2.2) lines.length (lines.map Jz), Jbn t.1 (.slice t.2.1.1 s.2.length t.2.1.2) s.2]) (fun s t => True) (1, []) (0, (none, 0), pl) [0, 1, 2, 3] H10 trivial (by exact ⟨rfl, rfl, trivial⟩) (by decide) (by kernel_rfl) ?_
    rintro ⟨a, ds⟩ ⟨d, pf, pl⟩ m gg2 H _
    clear H10
    try dsimp only
    refine Jc ?_
    refine Jc ?_
    refine Qv (Kd.p :: Kd.p :: Kd.p :: Kd.d [1] (.int .i64 a) :: Kd.p :: Kd.p :: Kd.p :: Kd.d [1] (.slice pl.1 lines.length pl.2) :: Kd.p :: Kd.p :: []) 0 mixed ?_ (by kernel_rfl)
    refine Jq rfl rfl (Jk (v := pz pb) rfl) ?_
    refine Jq rfl rfl (Jm rfl) ?_
    refine Jq rfl rfl (Jr Tryz.runUnderlying65 rfl Tryz.sizeOf3 rfl rfl) ?_
    refine X9 (i := 1) (v := .int .i64 a) Tryz.isAgg3 rfl rfl rfl rfl ?_
    refine Jq rfl rfl (Jk (v := pz pb) rfl) ?_
    refine Jq rfl rfl (Jm rfl) ?_
    refine Jq rfl rfl (Jr Tryz.runUnderlying65 rfl Tryz.sizeOf31 rfl rfl) ?_
    refine X9 (i := 1) (v := (.slice pl.1 lines.length pl.2)) Tryz.isAgg31 rfl rfl rfl rfl ?_
    refine Jq rfl rfl (Wl Tryz.underlying31 rfl) ?_
    refine Jq rfl rfl (Xk rfl rfl) ?_
    refine X6 ?_
    try dsimp only [z1, z2, z3, z4, z5, z6, z7, z8]
    refine Jak (b := decide (a < (lines.length : Int))) rfl (fun hb => ?_) (fun hb => ?_)
    ·have H1 := Xn hb H
     obtain ⟨s, h_at, H2⟩ := Je H1
     clear H H1
     refine Jh ?_
     refine Jp ?_
     refine Jc ?_
     refine Jc ?_
     refine Qv (Kd.p :: Kd.p :: Kd.p :: Kd.d [1] (.slice pl.1 lines.length pl.2) :: Kd.p :: Kd.p :: Kd.p :: Kd.d [1] (.int .i64 a) :: Kd.d [2] (X1 pl.1 (Int.toNat a * 1)) :: Kd.d [2] (str s) :: Kd.p :: []) 0 mixed ?_ (by kernel_rfl)
     refine Jq rfl rfl (Jk (v := pz pb) rfl) ?_
     refine Jq rfl rfl (Jm rfl) ?_
     refine Jq rfl rfl (Jr Tryz.runUnderlying65 rfl Tryz.sizeOf31 rfl rfl) ?_
     refine X9 (i := 1) (v := (.slice pl.1 lines.length pl.2)) Tryz.isAgg31 rfl rfl rfl rfl ?_
     refine Jq rfl rfl (Jk (v := pz pb) rfl) ?_
     refine Jq rfl rfl (Jm rfl) ?_
     refine Jq rfl rfl (Jr Tryz.runUnderlying65 rfl Tryz.sizeOf3 rfl rfl) ?_
     refine X9 (i := 1) (v := .int .i64 a) Tryz.isAgg3 rfl rfl rfl rfl ?_
     refine Ya (fun w L' hF hS hi => Qx Tryz.underlying31 Tryz.sizeOf9 rfl rfl (Xd (i := 2) (E := 9) (sz := 1) (n := lines.length) (a := pl.1) (c := pl.2) hS ((hi 2 (by simp)).trans rfl)) rfl h_at) rfl rfl ?_
     refine Ya (fun w L' hF hS hi => Qb (f := Jz) (i := a) (sz := 1) (j := 0) (v := str s) Tryz.isAgg9 rfl rfl (Xd (i := 2) (E := 9) (sz := 1) (n := lines.length) (a := pl.1) (c := pl.2) hS ((hi 2 (by simp)).trans rfl)) h_at rfl) rfl rfl ?_
     refine Jq rfl rfl (Ja3 rfl rfl) ?_
     refine X6 ?_
     try dsimp only [z1, z2, z3, z4, z5, z6, z7, z8]
     refine Jak (b := decide (s ≠ [100, 105, 114])) rfl (fun hb1 => ?_) (fun hb1 => ?_)
     ·obtain ⟨z, h_z, H3⟩ := Je (Xn hb1 H2)
      refine Jc ?_
      refine Qv (Kd.p :: Kd.p :: Kd.p :: Kd.p :: Kd.d [1] (.int .i64 a) :: Kd.p :: Kd.st 2 0 [.bool false, z0s] 24 :: Kd.p :: Kd.p :: []) 0 mixed ?_ (by kernel_rfl)
      refine Jq rfl rfl (Yi (pl := #[(0, 1), (1, 1)]) (ps := []) (cells := #[.bool false, z0s]) Tryz.zeroValue24 Tryz.runUnderlying24 (fun w => by kernel_rfl) rfl rfl) ?_
      refine Jq rfl rfl (Jk (v := pz pb) rfl) ?_
      refine Jq rfl rfl (Jm rfl) ?_
      refine Jq rfl rfl (Jr Tryz.runUnderlying65 rfl Tryz.sizeOf3 rfl rfl) ?_
      refine X9 (i := 1) (v := .int .i64 a) Tryz.isAgg3 rfl rfl rfl rfl ?_
      refine Jq rfl rfl (J8 rfl rfl h_z) ?_
      refine Jgz (i := 0) (vs := [.bool false, z0s]) (cs' := [.bool false, z0s]) Tryz.sizeOf24 rfl rfl rfl rfl rfl rfl rfl rfl rfl ?_
      refine Jq rfl rfl (Jg (v := .int .i64 z) rfl) ?_
      refine Jq rfl rfl (Jg (v := .int .i64 8) rfl) ?_
      refine X6 ?_
      try dsimp only [z1, z2, z3, z4, z5, z6, z7, z8]
      refine Ji ?_
      exact err rfl (Option.some.inj H3).symm rfl rfl rfl
     ·obtain ⟨a1, h_a1, H3⟩ := Je (Xg hb1 H2)
      obtain ⟨rr, h_rr, H4⟩ := Je H3
      clear H2 H3
      obtain ⟨k, h_k⟩ := Jfz h_rr
      refine Jh ?_
      refine Jc ?_
      refine Ja ?_
      refine Jf rfl rfl rfl (Jk (v := pz pb) rfl) ?_
      refine Jf rfl rfl rfl (Jm rfl) ?_
      refine Jf rfl rfl rfl (Jr Tryz.runUnderlying65 rfl Tryz.sizeOf3 rfl rfl) ?_
      refine Y7 (i := 1) (v := .int .i64 a) Tryz.isAgg3 rfl rfl rfl rfl rfl ?_
      refine Jf rfl rfl rfl (J8 rfl rfl h_a1) ?_
      refine Jf rfl rfl rfl (Jm rfl) ?_
      refine Jf rfl rfl rfl (Jr Tryz.runUnderlying65 rfl Tryz.sizeOf3 rfl rfl) ?_
      refine Qu (i := 1) (vs := [.int .i64 a1]) (cs' := [(.slice pl.1 lines.length pl.2), .int .i64 a1]) Tryz.sizeOf3 rfl rfl rfl rfl rfl rfl rfl rfl rfl ?_
      refine Jd ?_
      try dsimp only [z1, z2, z3, z4, z5, z6, z7, z8]
      refine Qc 1 2 rfl rfl (by decide) ?_
      try dsimp only [z1, z2, z3, z4, z5, z6, z7, z8]
      refine J1 1 rfl (⟨fun _ _ h => ⟨pl, h⟩⟩ : Imp _ (rtC pb lines a1)) ?_
      try dsimp only [z1, z2, z3, z4, z5, z6, z7, z8]
      refine Jc ?_
      refine Ja ?_
      refine Jf rfl rfl rfl (Jk (v := pz pb) rfl) ?_
      refine Q1 (Qa (i := 1) (rds := []) (G := fun q5 : Option Addr × Nat => .tuple #[Value.slice q5.1 rr.1.length q5.2, .int .i64 rr.2.1]) (C := fun q5 : Option Addr × Nat => Qy (rtC pb lines rr.2.2) (Yw (k + 1) (Value.slice q5.1 rr.1.length q5.2) rr.1)) rfl (fun w L' S hF hS hi hC hlt hown hA => rt_all k hC hlt h_k) Tryz.call28 rfl) rfl rfl rfl (fun q5 => ?_)
      refine c_splitAt 1 2 rfl rfl (by decide) ?_
      try dsimp only [z1, z2, z3, z4, z5, z6, z7, z8]
      refine Jf rfl rfl rfl (Jk (v := .tuple #[Value.slice q5.1 rr.1.length q5.2, .int .i64 rr.2.1]) rfl) ?_
      refine Jf rfl rfl rfl (Jo (v := Value.slice q5.1 rr.1.length q5.2) rfl rfl) ?_
      refine Jf rfl rfl rfl (Jo (v := .int .i64 rr.2.1) rfl rfl) ?_
      refine Jf rfl rfl rfl (Jg (v := Value.slice q5.1 rr.1.length q5.2) rfl) ?_
      refine Jf rfl rfl rfl (Jg (v := .int .i64 rr.2.1) rfl) ?_
      refine Jd ?_
      try dsimp only [z1, z2, z3, z4, z5, z6, z7, z8]
      refine c_ex 1 rfl fun pm => ?_
      refine Xo 1 rfl ?_
      try dsimp only [z1, z2, z3, z4, z5, z6, z7, z8]
      refine Jc ?_
      refine Jc ?_
      refine Ja ?_
      refine Jf rfl rfl rfl (Jk (v := .int .i64 rr.2.1) rfl) ?_
      refine Jf rfl rfl rfl (Vk rfl rfl) ?_
      refine Jd ?_
      refine Jak (b := decide (rr.2.1 ≠ 0)) rfl (fun hb2 => ?_) (fun hb2 => ?_)
      ·obtain ⟨z, h_z, H5⟩ := Je (Xn hb2 H4)
       refine Jc ?_
       refine Qv (Kd.p :: Kd.p :: Kd.p :: Kd.p :: Kd.d [1] (.int .i64 rr.2.2) :: Kd.p :: Kd.p :: Kd.st 2 0 [.bool false, z0s] 24 :: Kd.p :: Kd.p :: []) 0 mixed ?_ (by kernel_rfl)
       refine Jq rfl rfl (Yi (pl := #[(0, 1), (1, 1)]) (ps := []) (cells := #[.bool false, z0s]) Tryz.zeroValue24 Tryz.runUnderlying24 (fun w => by kernel_rfl) rfl rfl) ?_
       refine Jq rfl rfl (Jk (v := pz pb) rfl) ?_
       refine Jq rfl rfl (Jm rfl) ?_
       refine Jq rfl rfl (Jr Tryz.runUnderlying65 rfl Tryz.sizeOf3 rfl rfl) ?_
       refine X9 (i := 1) (v := .int .i64 rr.2.2) Tryz.isAgg3 rfl rfl rfl rfl ?_
       refine Jq rfl rfl (J8 rfl rfl h_z) ?_
       refine Jq rfl rfl (Jk (v := .int .i64 rr.2.1) rfl) ?_
       refine Jgz (i := 0) (vs := [.bool false, z0s]) (cs' := [.bool false, z0s]) Tryz.sizeOf24 rfl rfl rfl rfl rfl rfl rfl rfl rfl ?_
       refine Jq rfl rfl (Jg (v := .int .i64 z) rfl) ?_
       refine Jq rfl rfl (Jg (v := .int .i64 rr.2.1) rfl) ?_
       refine X6 ?_
       try dsimp only [z1, z2, z3, z4, z5, z6, z7, z8]
       refine Ji ?_
       exact err rfl (Option.some.inj H5).symm rfl rfl rfl
      ·obtain ⟨ds', h_ds, H5⟩ := Je (Xg hb2 H4)
       obtain ⟨rfl, hz1, hz2⟩ := Jch h_ds
       obtain ⟨d', hd1, hd2⟩ : ∃ d', d ≤ d' ∧ k + 1 ≤ d' := ⟨max d (k + 1), Nat.le_max_left _ _, Nat.le_max_right _ _⟩
       refine Jh ?_
       refine J1 3 rfl (imp_upFN hd1) ?_
       try dsimp only [z1, z2, z3, z4, z5, z6, z7, z8]
       refine J1 2 rfl (imp_upTN hd2) ?_
       try dsimp only [z1, z2, z3, z4, z5, z6, z7, z8]
       refine Uq (τ := List (List Value)) (D := fun css => Qy (Jdm d' css ds) (J3 41 1 (.slice pf.1 ds.length pf.2) css.length (css.map Vp))) (φ := fun css => css.length = ds.length) 3 rfl (fun S w h => Jiy h) (fun css hcss => ?_)
       try dsimp only [z1, z2, z3, z4, z5, z6, z7, z8]
       refine Xo 3 rfl ?_
       try dsimp only [z1, z2, z3, z4, z5, z6, z7, z8]
       refine J1 5 rfl (Imp.of (show J3 41 1 (.slice pf.1 ds.length pf.2) css.length (css.map Vp) = J3 41 1 (.slice pf.1 ds.length pf.2) ds.length (css.map Vp) from by rw [hcss])) ?_
       try dsimp only [z1, z2, z3, z4, z5, z6, z7, z8]
       have hzc : (css ++ [[Value.slice q5.1 rr.1.length q5.2]]).length * 24 ≤ 140737488355328 := by rw [List.length_append, hcss]; simpa using hz2
       refine Ja ?_
       refine Jf rfl rfl rfl (Jr Tryz.runUnderlying24 rfl Tryz.sizeOf22 rfl rfl) ?_
       refine Y7 (i := 0) (v := .slice pf.1 ds.length pf.2) Tryz.isAgg22 rfl rfl rfl rfl rfl ?_
       refine Jf rfl rfl rfl (Jk (v := Value.slice q5.1 rr.1.length q5.2) rfl) ?_
       refine Q9 (vs := [Value.slice q5.1 rr.1.length q5.2]) (cs := [Value.slice q5.1 rr.1.length q5.2]) Tryz.underlying22 Tryz.sizeOf41 Tryz.zeroValue41 rfl rfl rfl rfl rfl rfl rfl (fun b7 => ?_)
       refine Q1 (Ud (f := Vp) (ys := css) (ls := [[Value.slice q5.1 rr.1.length q5.2]]) (cs := [Value.slice q5.1 rr.1.length q5.2]) (i := 5) (p := pf) (k := 6) (b := b7) Tryz.underlying22 (Xv Tryz.typeInfo41) rfl rfl rfl rfl rfl rfl rfl hcss.symm rfl rfl rfl rfl rfl rfl rfl hzc rfl) rfl rfl rfl (fun p6 => ?_)
       refine Jf rfl rfl rfl (Jr Tryz.runUnderlying24 rfl Tryz.sizeOf22 rfl rfl) ?_
       refine Qu (i := 0) (vs := [.slice p6.1 (css ++ [[Value.slice q5.1 rr.1.length q5.2]]).length p6.2]) (cs' := [.bool big, .slice p6.1 (css ++ [[Value.slice q5.1 rr.1.length q5.2]]).length p6.2]) Tryz.sizeOf22 rfl rfl rfl rfl rfl rfl rfl rfl rfl ?_
       refine Jd ?_
       try dsimp only [z1, z2, z3, z4, z5, z6, z7, z8]
       refine Qc 3 2 rfl rfl (by decide) ?_
       try dsimp only [z1, z2, z3, z4, z5, z6, z7, z8]
       refine J1 3 rfl Jjg ?_
       try dsimp only [z1, z2, z3, z4, z5, z6, z7, z8]
       refine Qc 3 5 rfl rfl (by decide) ?_
       try dsimp only [z1, z2, z3, z4, z5, z6, z7, z8]
       refine J1 3 rfl Jiu ?_
       try dsimp only [z1, z2, z3, z4, z5, z6, z7, z8]
       have hlen : (css ++ [[Value.slice q5.1 rr.1.length q5.2]]).length = (ds ++ [rr.1]).length := by rw [List.length_append, List.length_append, hcss]; rfl
       refine J1 0 rfl (Imp.of (show Jn b2 [.bool big, .slice p6.1 (css ++ [[Value.slice q5.1 rr.1.length q5.2]]).length p6.2] 24 = Jn b2 [.bool big, .slice p6.1 (ds ++ [rr.1]).length p6.2] 24 from by rw [hlen])) ?_
       try dsimp only [z1, z2, z3, z4, z5, z6, z7, z8]
       refine J1 3 rfl (Imp.of (show Jbn d' (.slice p6.1 (css ++ [[Value.slice q5.1 rr.1.length q5.2]]).length p6.2) (ds ++ [rr.1]) = Jbn d' (.slice p6.1 (ds ++ [rr.1]).length p6.2) (ds ++ [rr.1]) from by rw [hlen])) ?_
       try dsimp only [z1, z2, z3, z4, z5, z6, z7, z8]
       refine Ze (rr.2.2, ds ++ [rr.1]) (d', p6, pm) m [0, 1, 4, 3] (by exact ⟨rfl, rfl, trivial⟩) (by decide) (by kernel_rfl) (by exact ⟨H5, trivial⟩) (Nat.lt_succ_self _)
    ·have H1 := Xg hb H
     clear H
     obtain ⟨y, h_y, H3⟩ := Je H1
     refine Qp ?_
     refine Jh2 3 rfl (fun hp ⟨bs, tF, hnd, hdom⟩ => ?_)
     have f0 := tF.frn
     refine Jc ?_
     refine Jc ?_
     refine Ja ?_
     refine Q0 (i := 0) (vs := [.bool big, .slice pf.1 ds.length pf.2]) Tryz.isAgg24 Tryz.sizeOf24 rfl rfl rfl rfl rfl ?_
     refine Qt (fun w hF hS => k5 (a0 := ⟨big, ds⟩) (Ju w) (f0.mono (Jdq (i := 3) hS rfl Jbr)) h_y) Tryz.call5 rfl rfl rfl ?_
     refine Jf rfl rfl rfl (Jg (v := .int .i64 y) rfl) ?_
     refine Jd ?_
     refine Jc ?_
     refine Ja ?_
     refine Jf rfl rfl rfl (Jk (v := .int .i64 y) rfl) ?_
     refine Jf rfl rfl rfl (Vk rfl rfl) ?_
     refine Jd ?_
     refine Jak (b := (decide (y ≠ 0))) rfl (fun hb3 => ?_) (fun hb3 => ?_)
     ·have H4 := Xn hb3 H3
      refine Jc ?_
      refine Ja ?_
      refine Jf rfl rfl rfl (Yi (pl := #[(0, 1), (1, 1)]) (ps := []) (cells := #[.bool false, z0s]) Tryz.zeroValue24 Tryz.runUnderlying24 (fun w => by kernel_rfl) rfl rfl) ?_
      refine Jf rfl rfl rfl (Jk (v := .int .i64 y) rfl) ?_
      refine Qu (i := 0) (vs := [.bool false, z0s]) (cs' := [.bool false, z0s]) Tryz.sizeOf24 rfl rfl rfl rfl rfl rfl rfl rfl rfl ?_
      refine Jf rfl rfl rfl (Jg (v := .int .i64 0) rfl) ?_
      refine Jf rfl rfl rfl (Jg (v := .int .i64 y) rfl) ?_
      refine Jd ?_
      refine Ji ?_
      exact err rfl (Option.some.inj H4).symm rfl rfl rfl
     ·have H4 := Xg hb3 H3
      obtain rfl := Option.some.inj H4
      refine Jh ?_
      refine Jc ?_
      refine Ja ?_
      refine Q0 (i := 0) (vs := [.bool big, .slice pf.1 ds.length pf.2]) Tryz.isAgg24 Tryz.sizeOf24 rfl rfl rfl rfl rfl ?_
      refine Qu (i := 0) (vs := [.bool big, .slice pf.1 ds.length pf.2]) (cs' := [.bool big, .slice pf.1 ds.length pf.2]) Tryz.sizeOf24 rfl rfl rfl rfl rfl rfl rfl rfl rfl ?_
      refine Jf rfl rfl rfl (Jg (v := .int .i64 0) rfl) ?_
      refine Jf rfl rfl rfl (Jg (v := .int .i64 0) rfl) ?_
      refine Jd ?_
      refine Ji ?_
      try dsimp only [z1, z2, z3, z4, z5, z6, z7, z8]
      refine J1 3 rfl (imp_pooled (Φ := fun hp_ => FrN hp_ 1 (.slice pf.1 ds.length pf.2) gs_tag_Entry ds) f0) ?_
      exact retCtt (i := 0) (vs := [.bool big, .slice pf.1 ds.length pf.2]) (v2 := .int .i64 0) (v3 := .int .i64 0) Tryz.isAgg24 Tryz.sizeOf24 rfl rfl rfl rfl rfl rfl (Yg pf (i := 3) rfl rfl (Imp.refl _))
end Go.Proofs.YtkbiccgjkiifpaaGreatDoor

namespace Go.Proofs.YtkbiccgjkiifpaaGreatDoor
open Go Go.Vc Go.Md Go.M Go.Lx Tryz
set_option maxRecDepth 100000
set_option maxHeartbeats 4000000
theorem k8 {a0 : (List UInt8)} {a1 : Int} {a2 : (List UInt8)} {a3 : Int} {r : Bool} (H : Jb2 a0 a1 a2 a3 = some r) : Ret prog 8 [str a0, i6 a1, str a2, i6 a3] (.bool r) := by
 refine Qr (n := 21) func8 rfl rfl rfl (fun wd => ?_)
 refine Jc<|Ja<|ag (.bool false)<|Jd<|Jc<|Ja<|ag (str [])<|Jd<|?_
 refine Qe (r := r) (σ := (List UInt8)) (τ := Unit) (fun s => Wj a0 a1 a3 s) (fun s t => [(0, str a0), (1, i6 a1), (2, str s), (3, i6 a3)]) (fun s t => []) (fun s t => True) ?_ ?_
 ·refine Jc<|Ja<|mv (i6 a3)<|lv (Vk rfl rfl)<|Jd<|?_
  revert H
  refine ci (decide (a3 ≠ 0)) rfl (fun hb H9=>?_) fun hb H10=>?_
  ·refine Ja<|mv (str [])<|ag (str [])<|Jd<|?_
   exact cl [] () 0 [] (by exact ⟨H9, trivial⟩)
  ·refine Jh ?_
   exact cl a2 () 0 [] (by exact ⟨H10, trivial⟩)
 ·rintro x2 _ gg H6 _
  try dsimp only at H6
  try dsimp only
  refine Jc<|Ja<|mv (str a0)<|mv (str x2)<|lv (Vl rfl rfl)<|mv (.bool (decide (a0 = x2)))<|?_
  revert H6
  refine sp (fun hb H7=>?_) fun hb H8=>?_
  ·refine mv (i6 a1)<|mv (i6 a3)<|lv (Qd rfl rfl)<|pT (.bool (decide (a1 = a3)))<|ag (.bool (decide (a1 = a3)))<|Jd<|Ji<|?_
   obtain rfl := sj H7
   exact r1 (.bool (decide (a1 = a3)))
  ·refine pa<|pa<|pa<|pF (.bool false)<|ag (.bool false)<|Jd<|Ji<|?_
   obtain rfl := sj H8
   exact r1 (.bool false)
theorem k54 {a0 : (List (List Ta))} {v0 : Value} {a1 : (List (List Ta))} {v1 : Value} {a2 : ((List Ta) → (List Ta) → Option (Bool))} {v2 : Value} {r : Bool} {w : World} {h : Jw} (hw : Know h w Ys) (f0 : FrN h 1 v0 gs_tag_Entry a0) (f1 : FrN h 1 v1 gs_tag_Entry a1) (f2 : FnH prog h v2 (Wr a2)) (H : Q6 a0 a1 a2 = some r) : Does prog 54 (List.toArray [v0, v1, v2]) w (fun v w' => v = (.bool r) ∧ Grow w w') := by
 refine enter (n := 32) func54 rfl rfl rfl Ys [] (Sat.nil _ _)<|Jc<|Ja<|ag (.bool false)<|Jd<|Jc<|Jc<|Ja<|mv v0<|lv (Xw Tryz.underlying22 rfl f0)<|mv v1<|lv (Xw Tryz.underlying22 rfl f1)<|lv (Vk rfl rfl)<|Jd<|?_
 revert H
 refine ci (decide ((a0.l : Int) ≠ (a1.l : Int))) rfl (fun hb H12=>?_) fun hb H13=>?_
 ·refine Jc<|Ja<|ag (.bool false)<|Jd<|Ji<|?_
  obtain rfl := sj H12
  exact r1 (.bool false)
 ·refine Jh<|Jc<|Jc<|Ja<|mv v0<|lv (Xw Tryz.underlying22 rfl f0)<|mv (i6 0)<|Jd<|Jp<|?_
  refine Xu (σ := Int) (τ := Unit) (fun next1 s => Jt a0 a1 a2 next1 s) (fun s t => [(1, v1), (2, v2), (15, v0), (16, i6 (a0.l : Int)), (17, i6 s)]) (fun s t => []) (fun s t => True) 0 () [] H13 (by exact trivial) (by exact ⟨rfl, rfl, rfl, rfl, rfl, trivial⟩) (by decide) rfl ?_
  rintro x17_2 _ m1 gg H14 _
  clear H13
  try dsimp only at H14
  generalize hn1 : it (fun next1 s => Jt a0 a1 a2 next1 s) m1 = next1 at H14
  try dsimp only
  refine Jc<|Ja<|lv (Xk rfl rfl)<|Jd<|Jc<|?_
  revert H14
  refine ci (decide (x17_2 < (a0.l : Int))) rfl (fun hb H15=>?_) fun hb H22=>?_
  ·refine Jh<|Jc<|Jp<|Jc<|Ja<|mv (i6 x17_2)<|?_
   obtain ⟨t20, h_t20, H16⟩ := Je H15; clear H15
   refine lv (Q7 Tryz.underlying22 Tryz.sizeOf41 rfl rfl f0.frs (f0.ix h_t20))<|Qf (fun w hF hS => Qb (f := (elC h v0 1)) (i := x17_2) (sz := 1) (j := 0) (v := (Qq h v0 1 (Int.toNat x17_2) 0)) Tryz.isAgg41 rfl rfl (f0.frs.row (hw.now hF)) (f0.ix h_t20) (Jgi (Vd (f0.at h_t20)) rfl)) rfl rfl rfl<|ag (i6 x17_2)<|ag ((Qq h v0 1 (Int.toNat x17_2) 0))<|Jd<|Jc<|Ja<|mv v1<|mv (i6 x17_2)<|?_
   obtain ⟨t24, h_t24, H17⟩ := Je H16; clear H16
   refine lv (Q7 Tryz.underlying22 Tryz.sizeOf41 rfl rfl f1.frs (f1.ix h_t24))<|Qf (fun w hF hS => Qb (f := (elC h v1 1)) (i := x17_2) (sz := 1) (j := 0) (v := (Qq h v1 1 (Int.toNat x17_2) 0)) Tryz.isAgg41 rfl rfl (f1.frs.row (hw.now hF)) (f1.ix h_t24) (Jgi (Vd (f1.at h_t24)) rfl)) rfl rfl rfl<|ag ((Qq h v1 1 (Int.toNat x17_2) 0))<|Jd<|Jc<|Ja<|mv v2<|mv ((Qq h v0 1 (Int.toNat x17_2) 0))<|mv ((Qq h v1 1 (Int.toNat x17_2) 0))<|?_
   obtain ⟨t29, h_t29, H18⟩ := Je H17; clear H17
   refine l_callV (R := Wr a2) (r := .bool t29) (v := v2) (fun w hF hS => ⟨(f2.mono (hw.now hF)), ⟨t20, _, t24, _, _, ((show FrN h 6 (Qq h v0 1 (Int.toNat x17_2) 0) g_tag_Entry t20 from (f0.at h_t20)).mono (hw.now hF)), ((show FrN h 6 (Qq h v1 1 (Int.toNat x17_2) 0) g_tag_Entry t24 from (f1.at h_t24)).mono (hw.now hF)), rfl, h_t29, rfl⟩⟩) rfl rfl rfl rfl<|lv (Jay rfl)<|Jd<|?_
   revert H18
   refine ci (!t29) rfl (fun hb H19=>?_) fun hb H20=>?_
   ·refine Jc<|Ja<|ag (.bool false)<|Jd<|Ji<|?_
    obtain rfl := sj H19
    exact r1 (.bool false)
   ·refine Jh<|Ja<|?_
    obtain ⟨t31, h_t31, H21⟩ := Je H20; clear H20
    refine lv (J8 rfl rfl h_t31)<|mv (i6 t31)<|Jd<|?_
    exact cl t31 () m1 [] (by exact ⟨(by subst hn1; exact H21), trivial⟩)
  ·refine Qp<|Jc<|Ja<|ag (.bool true)<|Jd<|Ji<|?_
   obtain rfl := sj H22
   exact r1 (.bool true)
theorem k99 {a0 : (List Ta)} {v0 : Value} {a1 : (List Ta)} {v1 : Value} {a2 : (Ta → Ta → Option (Bool))} {v2 : Value} {r : Bool} {w : World} {h : Jw} (hw : Know h w Ys) (f0 : FrN h 6 v0 g_tag_Entry a0) (f1 : FrN h 6 v1 g_tag_Entry a1) (f2 : FnH prog h v2 (Vj a2)) (H : Q5 a0 a1 a2 = some r) : Does prog 99 (List.toArray [v0, v1, v2]) w (fun v w' => v = (.bool r) ∧ Grow w w') := by
 refine enter (n := 32) func99 rfl rfl rfl Ys [] (Sat.nil _ _)<|Jc<|Ja<|ag (.bool false)<|Jd<|Jc<|Jc<|Ja<|mv v0<|lv (Xw Tryz.underlying41 rfl f0)<|mv v1<|lv (Xw Tryz.underlying41 rfl f1)<|lv (Vk rfl rfl)<|Jd<|?_
 revert H
 refine ci (decide ((a0.l : Int) ≠ (a1.l : Int))) rfl (fun hb H12=>?_) fun hb H13=>?_
 ·refine Jc<|Ja<|ag (.bool false)<|Jd<|Ji<|?_
  obtain rfl := sj H12
  exact r1 (.bool false)
 ·refine Jh<|Jc<|Jc<|Ja<|mv v0<|lv (Xw Tryz.underlying41 rfl f0)<|mv (i6 0)<|Jd<|Jp<|?_
  refine Xu (σ := Int) (τ := Unit) (fun next1 s => J5 a0 a1 a2 next1 s) (fun s t => [(1, v1), (2, v2), (15, v0), (16, i6 (a0.l : Int)), (17, i6 s)]) (fun s t => []) (fun s t => True) 0 () [] H13 (by exact trivial) (by exact ⟨rfl, rfl, rfl, rfl, rfl, trivial⟩) (by decide) rfl ?_
  rintro x17_2 _ m1 gg H14 _
  clear H13
  try dsimp only at H14
  generalize hn1 : it (fun next1 s => J5 a0 a1 a2 next1 s) m1 = next1 at H14
  try dsimp only
  refine Jc<|Ja<|lv (Xk rfl rfl)<|Jd<|Jc<|?_
  revert H14
  refine ci (decide (x17_2 < (a0.l : Int))) rfl (fun hb H15=>?_) fun hb H22=>?_
  ·refine Jh<|Jc<|Jp<|Jc<|Ja<|mv (i6 x17_2)<|?_
   obtain ⟨t20, h_t20, H16⟩ := Je H15; clear H15
   refine lv (Q7 Tryz.underlying41 Tryz.sizeOf83 rfl rfl f0.frs (f0.ix h_t20))<|Qf (fun w hF hS => Yl (f := (elC h v0 6)) (i := x17_2) (sz := 6) (j := 0) (vs := [i6 t20.Tag, i6 t20.Value.kad, str t20.Value.kae, (Qq h v0 6 (Int.toNat x17_2) 3), (Qq h v0 6 (Int.toNat x17_2) 4), (Qq h v0 6 (Int.toNat x17_2) 5)]) isAgg83 Tryz.sizeOf83 rfl rfl (f0.frs.row (hw.now hF)) (f0.ix h_t20) (rd_of (Zt (f0.at h_t20)) rfl)) rfl rfl rfl<|?_
   refine Xi (cs := [i6 0, i6 0, str [], z0s, z0s, z0s]) zeroValue83 rfl rfl rfl (fun b2 => ?_)
   refine ag (i6 x17_2)<|Qu (i := 0) (vs := [i6 t20.Tag, i6 t20.Value.kad, str t20.Value.kae, (Qq h v0 6 (Int.toNat x17_2) 3), (Qq h v0 6 (Int.toNat x17_2) 4), (Qq h v0 6 (Int.toNat x17_2) 5)]) (cs' := [i6 t20.Tag, i6 t20.Value.kad, str t20.Value.kae, (Qq h v0 6 (Int.toNat x17_2) 3), (Qq h v0 6 (Int.toNat x17_2) 4), (Qq h v0 6 (Int.toNat x17_2) 5)]) Tryz.sizeOf83 rfl rfl rfl rfl rfl rfl (by simp only [List.all_cons, List.all_nil, (show FrN h 6 (Qq h v0 6 (Int.toNat x17_2) 5) g_tag_Entry t20.Value.kab from (J6 (Jj (f0.at h_t20)))).one, (show FrS h 1 (Qq h v0 6 (Int.toNat x17_2) 3) (t20.Value.kaf.map Qz) from (Qi (Jj (f0.at h_t20)))).one, (show FrS h 2 (Qq h v0 6 (Int.toNat x17_2) 4) (t20.Value.kac.map Jl) from (Qj (Jj (f0.at h_t20)))).one] <;> rfl) rfl rfl<|Jd<|Jc<|Ja<|mv v1<|mv (i6 x17_2)<|?_
   obtain ⟨t24, h_t24, H17⟩ := Je H16; clear H16
   refine lv (Q7 Tryz.underlying41 Tryz.sizeOf83 rfl rfl f1.frs (f1.ix h_t24))<|Qf (fun w hF hS => Yl (f := (elC h v1 6)) (i := x17_2) (sz := 6) (j := 0) (vs := [i6 t24.Tag, i6 t24.Value.kad, str t24.Value.kae, (Qq h v1 6 (Int.toNat x17_2) 3), (Qq h v1 6 (Int.toNat x17_2) 4), (Qq h v1 6 (Int.toNat x17_2) 5)]) isAgg83 Tryz.sizeOf83 rfl rfl (f1.frs.row (hw.now hF)) (f1.ix h_t24) (rd_of (Zt (f1.at h_t24)) rfl)) rfl rfl rfl<|?_
   refine Xi (cs := [i6 0, i6 0, str [], z0s, z0s, z0s]) zeroValue83 rfl rfl rfl (fun b3 => ?_)
   refine Qu (i := 1) (vs := [i6 t24.Tag, i6 t24.Value.kad, str t24.Value.kae, (Qq h v1 6 (Int.toNat x17_2) 3), (Qq h v1 6 (Int.toNat x17_2) 4), (Qq h v1 6 (Int.toNat x17_2) 5)]) (cs' := [i6 t24.Tag, i6 t24.Value.kad, str t24.Value.kae, (Qq h v1 6 (Int.toNat x17_2) 3), (Qq h v1 6 (Int.toNat x17_2) 4), (Qq h v1 6 (Int.toNat x17_2) 5)]) Tryz.sizeOf83 rfl rfl rfl rfl rfl rfl (by simp only [List.all_cons, List.all_nil, (show FrN h 6 (Qq h v1 6 (Int.toNat x17_2) 5) g_tag_Entry t24.Value.kab from (J6 (Jj (f1.at h_t24)))).one, (show FrS h 1 (Qq h v1 6 (Int.toNat x17_2) 3) (t24.Value.kaf.map Qz) from (Qi (Jj (f1.at h_t24)))).one, (show FrS h 2 (Qq h v1 6 (Int.toNat x17_2) 4) (t24.Value.kac.map Jl) from (Qj (Jj (f1.at h_t24)))).one] <;> rfl) rfl rfl<|Jd<|Jc<|Ja<|mv v2<|Q0 (i := 0) (vs := [i6 t20.Tag, i6 t20.Value.kad, str t20.Value.kae, (Qq h v0 6 (Int.toNat x17_2) 3), (Qq h v0 6 (Int.toNat x17_2) 4), (Qq h v0 6 (Int.toNat x17_2) 5)]) isAgg83 Tryz.sizeOf83 rfl rfl rfl rfl rfl<|Q0 (i := 1) (vs := [i6 t24.Tag, i6 t24.Value.kad, str t24.Value.kae, (Qq h v1 6 (Int.toNat x17_2) 3), (Qq h v1 6 (Int.toNat x17_2) 4), (Qq h v1 6 (Int.toNat x17_2) 5)]) isAgg83 Tryz.sizeOf83 rfl rfl rfl rfl rfl<|?_
   obtain ⟨t29, h_t29, H18⟩ := Je H17; clear H17
   refine l_callV (R := Vj a2) (r := .bool t29) (v := v2) (fun w hF hS => ⟨(f2.mono (hw.now hF)), ⟨t20, _, _, _, t24, _, _, _, _, ((show FrS h 1 (Qq h v0 6 (Int.toNat x17_2) 3) (t20.Value.kaf.map Qz) from (Qi (Jj (f0.at h_t20)))).mono (hw.now hF)), ((show FrS h 2 (Qq h v0 6 (Int.toNat x17_2) 4) (t20.Value.kac.map Jl) from (Qj (Jj (f0.at h_t20)))).mono (hw.now hF)), ((show FrN h 6 (Qq h v0 6 (Int.toNat x17_2) 5) g_tag_Entry t20.Value.kab from (J6 (Jj (f0.at h_t20)))).mono (hw.now hF)), ((show FrS h 1 (Qq h v1 6 (Int.toNat x17_2) 3) (t24.Value.kaf.map Qz) from (Qi (Jj (f1.at h_t24)))).mono (hw.now hF)), ((show FrS h 2 (Qq h v1 6 (Int.toNat x17_2) 4) (t24.Value.kac.map Jl) from (Qj (Jj (f1.at h_t24)))).mono (hw.now hF)), ((show FrN h 6 (Qq h v1 6 (Int.toNat x17_2) 5) g_tag_Entry t24.Value.kab from (J6 (Jj (f1.at h_t24)))).mono (hw.now hF)), rfl, h_t29, rfl⟩⟩) rfl rfl rfl rfl<|lv (Jay rfl)<|Jd<|?_
   revert H18
   refine ci (!t29) rfl (fun hb H19=>?_) fun hb H20=>?_
   ·refine Jc<|Ja<|ag (.bool false)<|Jd<|Ji<|?_
    obtain rfl := sj H19
    exact r1 (.bool false)
   ·refine Jh<|Ja<|?_
    obtain ⟨t31, h_t31, H21⟩ := Je H20; clear H20
    refine lv (J8 rfl rfl h_t31)<|mv (i6 t31)<|Jd<|?_
    exact cl t31 () m1 [] (by exact ⟨(by subst hn1; exact H21), trivial⟩)
  ·refine Qp<|Jc<|Ja<|ag (.bool true)<|Jd<|Ji<|?_
   obtain rfl := sj H22
   exact r1 (.bool true)
theorem k148 {a0 : (List Int)} {v0 : Value} {a1 : (List Int)} {v1 : Value} {r : Bool} {w : World} {h : Jw} (hw : Know h w Ys) (f0 : FrS h 1 v0 (a0.map Qz)) (f1 : FrS h 1 v1 (a1.map Qz)) (H : Jbj a0 a1 = some r) : Does prog 148 (List.toArray [v0, v1]) w (fun v w' => v = (.bool r) ∧ Grow w w') := by
 refine enter (n := 26) func148 rfl rfl rfl Ys [] (Sat.nil _ _)<|Jc<|Ja<|ag (.bool false)<|Jd<|Jc<|Jc<|Ja<|mv v0<|lv (Z8 Tryz.underlying76 rfl f0 rfl)<|mv v1<|lv (Z8 Tryz.underlying76 rfl f1 rfl)<|lv (Vk rfl rfl)<|Jd<|?_
 revert H
 refine ci (decide ((a0.l : Int) ≠ (a1.l : Int))) rfl (fun hb H11=>?_) fun hb H12=>?_
 ·refine Jc<|Ja<|ag (.bool false)<|Jd<|Ji<|?_
  obtain rfl := sj H11
  exact r1 (.bool false)
 ·refine Jh<|Jc<|Jc<|Ja<|mv v0<|lv (Z8 Tryz.underlying76 rfl f0 rfl)<|mv (i6 0)<|Jd<|Jp<|?_
  refine Xu (σ := Int) (τ := Unit) (fun next1 s => Y2 a0 a1 next1 s) (fun s t => [(0, v0), (1, v1), (12, i6 (a0.l : Int)), (13, i6 s)]) (fun s t => []) (fun s t => True) 0 () [] H12 (by exact trivial) (by exact ⟨rfl, rfl, rfl, rfl, trivial⟩) (by decide) rfl ?_
  rintro x13_2 _ m1 gg H13 _
  clear H12
  try dsimp only at H13
  generalize hn1 : it (fun next1 s => Y2 a0 a1 next1 s) m1 = next1 at H13
  try dsimp only
  refine Jc<|Ja<|lv (Xk rfl rfl)<|Jd<|Jc<|?_
  revert H13
  refine ci (decide (x13_2 < (a0.l : Int))) rfl (fun hb H14=>?_) fun hb H20=>?_
  ·refine Jh<|Jc<|Jp<|Jc<|Ja<|mv (i6 x13_2)<|ag (i6 x13_2)<|Jd<|Jc<|?_
   exact Qv (Kd.p :: Kd.p :: Kd.p :: Kd.d [] _ :: Kd.p :: Kd.p :: Kd.p :: Kd.d [] _ :: Kd.p :: []) 0 mixed (by
    refine dm v0<|dm (i6 x13_2)<|?_
    have h_t18 := J4 H14
    have H15 := J0 H14
    refine dv (Q7 Tryz.underlying76 Tryz.sizeOf3 rfl rfl f0 h_t18)<|Jit (fun w hF => Qb (f := Qz) (i := x13_2) (sz := 1) (j := 0) (v := i6 (val (Yv a0 x13_2))) Tryz.isAgg3 rfl rfl (f0.row (hw.now hF)) h_t18 rfl) rfl rfl<|dm v1<|dm (i6 x13_2)<|?_
    have h_t22 := J4 H15
    have H16 := J0 H15
    refine dv (Q7 Tryz.underlying76 Tryz.sizeOf3 rfl rfl f1 h_t22)<|Jit (fun w hF => Qb (f := Qz) (i := x13_2) (sz := 1) (j := 0) (v := i6 (val (Yv a1 x13_2))) Tryz.isAgg3 rfl rfl (f1.row (hw.now hF)) h_t22 rfl) rfl rfl<|dv (Vk rfl rfl)<|X6<|?_
    revert H16
    refine ci (decide ((val (Yv a0 x13_2)) ≠ (val (Yv a1 x13_2)))) rfl (fun hb H17=>?_) fun hb H18=>?_
    ·refine Jc<|Ja<|ag (.bool false)<|Jd<|Ji<|?_
     obtain rfl := sj H17
     exact r1 (.bool false)
    ·refine Jh<|Ja<|?_
     obtain ⟨t25, h_t25, H19⟩ := Je H18; clear H18
     refine lv (J8 rfl rfl h_t25)<|mv (i6 t25)<|Jd<|?_
     exact cl t25 () m1 [] (by exact ⟨(by subst hn1; exact H19), trivial⟩)
    ) (by kernel_rfl)
  ·refine Qp<|Jc<|Ja<|ag (.bool true)<|Jd<|Ji<|?_
   obtain rfl := sj H20
   exact r1 (.bool true)
theorem k149 {a0 : (List Tc)} {v0 : Value} {a1 : (List Tc)} {v1 : Value} {r : Bool} {w : World} {h : Jw} (hw : Know h w Ys) (f0 : FrS h 2 v0 (a0.map Jl)) (f1 : FrS h 2 v1 (a1.map Jl)) (H : Vs a0 a1 = some r) : Does prog 149 (List.toArray [v0, v1]) w (fun v w' => v = (.bool r) ∧ Grow w w') := by
 refine enter (n := 26) func149 rfl rfl rfl Ys [] (Sat.nil _ _)<|Jc<|Ja<|ag (.bool false)<|Jd<|Jc<|Jc<|Ja<|mv v0<|lv (Z8 Tryz.underlying79 rfl f0 rfl)<|mv v1<|lv (Z8 Tryz.underlying79 rfl f1 rfl)<|lv (Vk rfl rfl)<|Jd<|?_
 revert H
 refine ci (decide ((a0.l : Int) ≠ (a1.l : Int))) rfl (fun hb H11=>?_) fun hb H12=>?_
 ·refine Jc<|Ja<|ag (.bool false)<|Jd<|Ji<|?_
  obtain rfl := sj H11
  exact r1 (.bool false)
 ·refine Jh<|Jc<|Jc<|Ja<|mv v0<|lv (Z8 Tryz.underlying79 rfl f0 rfl)<|mv (i6 0)<|Jd<|Jp<|?_
  refine Xu (σ := Int) (τ := Unit) (fun next1 s => Xq a0 a1 next1 s) (fun s t => [(0, v0), (1, v1), (12, i6 (a0.l : Int)), (13, i6 s)]) (fun s t => []) (fun s t => True) 0 () [] H12 (by exact trivial) (by exact ⟨rfl, rfl, rfl, rfl, trivial⟩) (by decide) rfl ?_
  rintro x13_2 _ m1 gg H13 _
  clear H12
  try dsimp only at H13
  generalize hn1 : it (fun next1 s => Xq a0 a1 next1 s) m1 = next1 at H13
  try dsimp only
  refine Jc<|Ja<|lv (Xk rfl rfl)<|Jd<|Jc<|?_
  revert H13
  refine ci (decide (x13_2 < (a0.l : Int))) rfl (fun hb H14=>?_) fun hb H20=>?_
  ·refine Jh<|Jc<|Jp<|Jc<|Ja<|mv (i6 x13_2)<|ag (i6 x13_2)<|Jd<|Jc<|?_
   exact Qv (Kd.p :: Kd.p :: Kd.p :: Kd.d [] _ :: Kd.p :: Kd.p :: Kd.p :: Kd.d [] _ :: Kd.p :: []) 0 mixed (by
    refine dm v0<|dm (i6 x13_2)<|?_
    have h_t18 := J4 H14
    have H15 := J0 H14
    refine dv (Q7 Tryz.underlying79 Tryz.sizeOf70 rfl rfl f0 h_t18)<|Jit (fun w hF => Yl (f := Jl) (i := x13_2) (sz := 2) (j := 0) (vs := [i6 (val (Yv a0 x13_2)).Num, i6 (val (Yv a0 x13_2)).Den]) isAgg70 Tryz.sizeOf70 rfl rfl (f0.row (hw.now hF)) h_t18 rfl) rfl rfl<|dm v1<|dm (i6 x13_2)<|?_
    have h_t22 := J4 H15
    have H16 := J0 H15
    refine dv (Q7 Tryz.underlying79 Tryz.sizeOf70 rfl rfl f1 h_t22)<|Jit (fun w hF => Yl (f := Jl) (i := x13_2) (sz := 2) (j := 0) (vs := [i6 (val (Yv a1 x13_2)).Num, i6 (val (Yv a1 x13_2)).Den]) isAgg70 Tryz.sizeOf70 rfl rfl (f1.row (hw.now hF)) h_t22 rfl) rfl rfl<|dv (r_neqA (xs := #[i6 (val (Yv a0 x13_2)).Num, i6 (val (Yv a0 x13_2)).Den]) (ys := #[i6 (val (Yv a1 x13_2)).Num, i6 (val (Yv a1 x13_2)).Den]) eqGuardType70 (fun w => Jio w (val (Yv a0 x13_2)) (val (Yv a1 x13_2))) rfl rfl)<|X6<|?_
    revert H16
    refine ci (!(Jcj (val (Yv a0 x13_2)) (val (Yv a1 x13_2)))) rfl (fun hb H17=>?_) fun hb H18=>?_
    ·refine Jc<|Ja<|ag (.bool false)<|Jd<|Ji<|?_
     obtain rfl := sj H17
     exact r1 (.bool false)
    ·refine Jh<|Ja<|?_
     obtain ⟨t25, h_t25, H19⟩ := Je H18; clear H18
     refine lv (J8 rfl rfl h_t25)<|mv (i6 t25)<|Jd<|?_
     exact cl t25 () m1 [] (by exact ⟨(by subst hn1; exact H19), trivial⟩)
    ) (by kernel_rfl)
  ·refine Qp<|Jc<|Ja<|ag (.bool true)<|Jd<|Ji<|?_
   obtain rfl := sj H20
   exact r1 (.bool true)
theorem k101_b {self : ((List Ta) × (List Ta)) → Option (Bool)} (ih : ∀ {a0 : (List Ta)} {v0 : Value} {a1 : (List Ta)} {v1 : Value} {r : Bool} {w : World} {h : Jw} (hw : Know h w Ys) (f0 : FrN h 6 v0 g_tag_Entry a0) (f1 : FrN h 6 v1 g_tag_Entry a1) (_ : self (a0, a1) = some r), Does prog 55 (List.toArray [v0, v1]) w (fun v w' => v = (.bool r) ∧ Grow w w')) {a0 : Tb} {v0_2 : Value} {v0_3 : Value} {v0_4 : Value} {a1 : Tb} {v1_2 : Value} {v1_3 : Value} {v1_4 : Value} {r : Bool} {w : World} {h : Jw} (hw : Know h w Ys) (f0_2 : FrS h 1 v0_2 (a0.kaf.map Qz)) (f0_3 : FrS h 2 v0_3 (a0.kac.map Jl)) (f0_4 : FrN h 6 v0_4 g_tag_Entry a0.kab) (f1_2 : FrS h 1 v1_2 (a1.kaf.map Qz)) (f1_3 : FrS h 2 v1_3 (a1.kac.map Jl)) (f1_4 : FrN h 6 v1_4 g_tag_Entry a1.kab) (H : Jc7 self a0 a1 = some r) : Does prog 101 (List.toArray [.agg #[i6 a0.kad, str a0.kae, v0_2, v0_3, v0_4], .agg #[i6 a1.kad, str a1.kae, v1_2, v1_3, v1_4]]) w (fun v w' => v = (.bool r) ∧ Grow w w') := by
 refine enter (n := 38) func101 rfl rfl rfl Ys [] (Sat.nil _ _)<|Jc<|Ja<|?_
 refine Vv (cs := [i6 a0.kad, str a0.kae, v0_2, v0_3, v0_4]) rfl rfl rfl rfl (fun b2 => ?_)
 refine Vv (cs := [i6 a1.kad, str a1.kae, v1_2, v1_3, v1_4]) rfl rfl rfl rfl (fun b3 => ?_)
 refine ag (.bool false)<|Jd<|Jc<|Ja<|lf Tryz.runUnderlying81 rfl Tryz.sizeOf3 rfl<|ll 0 (i6 a0.kad) Tryz.isAgg3<|lf Tryz.runUnderlying81 rfl Tryz.sizeOf3 rfl<|ll 1 (i6 a1.kad) Tryz.isAgg3<|lv (Qd rfl rfl)<|mv (.bool (decide (a0.kad = a1.kad)))<|?_
 revert H
 refine sp (fun hb H12=>?_) fun hb H22=>?_
 ·refine lf Tryz.runUnderlying81 rfl Tryz.sizeOf9 rfl<|ll 0 (str a0.kae) Tryz.isAgg9<|lf Tryz.runUnderlying81 rfl Tryz.sizeOf9 rfl<|ll 1 (str a1.kae) Tryz.isAgg9<|lv (Vl rfl rfl)<|pT (.bool (decide (a0.kae = a1.kae)))<|mv (.bool (decide (a0.kae = a1.kae)))<|?_
  revert H12
  refine sp (fun hb H13=>?_) fun hb H21=>?_
  ·refine lf Tryz.runUnderlying81 rfl Tryz.sizeOf76 rfl<|ll 0 v0_2 Tryz.isAgg76<|lf Tryz.runUnderlying81 rfl Tryz.sizeOf76 rfl<|ll 1 v1_2 Tryz.isAgg76<|?_
   obtain ⟨t22, h_t22, H14⟩ := Je H13; clear H13
   refine Qt (fun w hF hS => k148 (Ju w) (f0_2.mono (hw.now hF)) (f1_2.mono (hw.now hF)) h_t22) call148 rfl rfl rfl<|pT (.bool t22)<|mv (.bool t22)<|?_
   revert H14
   refine sp (fun hb H15=>?_) fun hb H20=>?_
   ·refine lf Tryz.runUnderlying81 rfl Tryz.sizeOf79 rfl<|ll 0 v0_3 Tryz.isAgg79<|lf Tryz.runUnderlying81 rfl Tryz.sizeOf79 rfl<|ll 1 v1_3 Tryz.isAgg79<|?_
    obtain ⟨t29, h_t29, H16⟩ := Je H15; clear H15
    refine Qt (fun w hF hS => k149 (Ju w) (f0_3.mono (hw.now hF)) (f1_3.mono (hw.now hF)) h_t29) call149 rfl rfl rfl<|pT (.bool t29)<|mv (.bool t29)<|?_
    revert H16
    refine sp (fun hb H17=>?_) fun hb H19=>?_
    ·refine lf Tryz.runUnderlying81 rfl Tryz.sizeOf41 rfl<|ll 0 v0_4 Tryz.isAgg41<|lf Tryz.runUnderlying81 rfl Tryz.sizeOf41 rfl<|ll 1 v1_4 Tryz.isAgg41<|?_
     obtain ⟨t36, h_t36, H18⟩ := Je H17; clear H17
     refine Qt (fun w hF hS => ih (Ju w) (f0_4.mono (hw.now hF)) (f1_4.mono (hw.now hF)) h_t36) call55 rfl rfl rfl<|pT (.bool t36)<|ag (.bool t36)<|Jd<|Ji<|?_
     obtain rfl := sj H18
     exact r1 (.bool t36)
    ·refine pa<|pa<|pa<|pa<|pa<|pF (.bool false)<|ag (.bool false)<|Jd<|Ji<|?_
     obtain rfl := sj H19
     exact r1 (.bool false)
   ·refine pa<|pa<|pa<|pa<|pa<|pF (.bool false)<|mv (.bool false)<|pa<|pa<|pa<|pa<|pa<|pF (.bool false)<|ag (.bool false)<|Jd<|Ji<|?_
    obtain rfl := sj H20
    exact r1 (.bool false)
  ·refine pa<|pa<|pa<|pa<|pa<|pF (.bool false)<|mv (.bool false)<|pa<|pa<|pa<|pa<|pa<|pF (.bool false)<|mv (.bool false)<|pa<|pa<|pa<|pa<|pa<|pF (.bool false)<|ag (.bool false)<|Jd<|Ji<|?_
   obtain rfl := sj H21
   exact r1 (.bool false)
 ·refine pa<|pa<|pa<|pa<|pa<|pF (.bool false)<|mv (.bool false)<|pa<|pa<|pa<|pa<|pa<|pF (.bool false)<|mv (.bool false)<|pa<|pa<|pa<|pa<|pa<|pF (.bool false)<|mv (.bool false)<|pa<|pa<|pa<|pa<|pa<|pF (.bool false)<|ag (.bool false)<|Jd<|Ji<|?_
  obtain rfl := sj H22
  exact r1 (.bool false)
theorem k100_b {self : ((List Ta) × (List Ta)) → Option (Bool)} (ih : ∀ {a0 : (List Ta)} {v0 : Value} {a1 : (List Ta)} {v1 : Value} {r : Bool} {w : World} {h : Jw} (hw : Know h w Ys) (f0 : FrN h 6 v0 g_tag_Entry a0) (f1 : FrN h 6 v1 g_tag_Entry a1) (_ : self (a0, a1) = some r), Does prog 55 (List.toArray [v0, v1]) w (fun v w' => v = (.bool r) ∧ Grow w w')) {a0 : Ta} {v0_1_2 : Value} {v0_1_3 : Value} {v0_1_4 : Value} {a1 : Ta} {v1_1_2 : Value} {v1_1_3 : Value} {v1_1_4 : Value} {r : Bool} {w : World} {h : Jw} (hw : Know h w Ys) (f0_1_2 : FrS h 1 v0_1_2 (a0.Value.kaf.map Qz)) (f0_1_3 : FrS h 2 v0_1_3 (a0.Value.kac.map Jl)) (f0_1_4 : FrN h 6 v0_1_4 g_tag_Entry a0.Value.kab) (f1_1_2 : FrS h 1 v1_1_2 (a1.Value.kaf.map Qz)) (f1_1_3 : FrS h 2 v1_1_3 (a1.Value.kac.map Jl)) (f1_1_4 : FrN h 6 v1_1_4 g_tag_Entry a1.Value.kab) (H : Jc4 self a0 a1 = some r) : Does prog 100 (List.toArray [.agg #[i6 a0.Tag, i6 a0.Value.kad, str a0.Value.kae, v0_1_2, v0_1_3, v0_1_4], .agg #[i6 a1.Tag, i6 a1.Value.kad, str a1.Value.kae, v1_1_2, v1_1_3, v1_1_4]]) w (fun v w' => v = (.bool r) ∧ Grow w w') := by
 refine enter (n := 17) func100 rfl rfl rfl Ys [] (Sat.nil _ _)<|Jc<|Ja<|?_
 refine Vv (cs := [i6 a0.Tag, i6 a0.Value.kad, str a0.Value.kae, v0_1_2, v0_1_3, v0_1_4]) rfl rfl rfl rfl (fun b2 => ?_)
 refine Vv (cs := [i6 a1.Tag, i6 a1.Value.kad, str a1.Value.kae, v1_1_2, v1_1_3, v1_1_4]) rfl rfl rfl rfl (fun b3 => ?_)
 refine ag (.bool false)<|Jd<|Jc<|Ja<|lf Tryz.runUnderlying83 rfl Tryz.sizeOf3 rfl<|ll 0 (i6 a0.Tag) Tryz.isAgg3<|lf Tryz.runUnderlying83 rfl Tryz.sizeOf3 rfl<|ll 1 (i6 a1.Tag) Tryz.isAgg3<|lv (Qd rfl rfl)<|mv (.bool (decide (a0.Tag = a1.Tag)))<|?_
 revert H
 refine sp (fun hb H4=>?_) fun hb H6=>?_
 ·refine lf Tryz.runUnderlying83 rfl Tryz.sizeOf81 rfl<|Q0 (i := 0) (vs := [i6 a0.Value.kad, str a0.Value.kae, v0_1_2, v0_1_3, v0_1_4]) Tryz.isAgg81 Tryz.sizeOf81 rfl rfl rfl rfl rfl<|lf Tryz.runUnderlying83 rfl Tryz.sizeOf81 rfl<|Q0 (i := 1) (vs := [i6 a1.Value.kad, str a1.Value.kae, v1_1_2, v1_1_3, v1_1_4]) Tryz.isAgg81 Tryz.sizeOf81 rfl rfl rfl rfl rfl<|?_
  obtain ⟨t15, h_t15, H5⟩ := Je H4; clear H4
  refine Qt (fun w hF hS => k101_b ih (Ju w) (f0_1_2.mono (hw.now hF)) (f0_1_3.mono (hw.now hF)) (f0_1_4.mono (hw.now hF)) (f1_1_2.mono (hw.now hF)) (f1_1_3.mono (hw.now hF)) (f1_1_4.mono (hw.now hF)) h_t15) call101 rfl rfl rfl<|pT (.bool t15)<|ag (.bool t15)<|Jd<|Ji<|?_
  obtain rfl := sj H5
  exact r1 (.bool t15)
 ·refine pa<|pa<|pa<|pa<|pa<|pF (.bool false)<|ag (.bool false)<|Jd<|Ji<|?_
  obtain rfl := sj H6
  exact r1 (.bool false)
theorem k55_it (mm : Nat) : ∀ {a0 : (List Ta)} {v0 : Value} {a1 : (List Ta)} {v1 : Value} {r : Bool} {w : World} {h : Jw} (hw : Know h w Ys) (f0 : FrN h 6 v0 g_tag_Entry a0) (f1 : FrN h 6 v1 g_tag_Entry a1) (H : it (fun (self : ((List Ta) × (List Ta)) → Option (Bool)) (s : (List Ta) × (List Ta)) => Xz self s.1 s.2) mm (a0, a1) = some r), Does prog 55 (List.toArray [v0, v1]) w (fun v w' => v = (.bool r) ∧ Grow w w') := by
 induction mm with
 | zero => intros; rename_i H; exact absurd H (by simp [it])
 | succ mm ih =>
  intro a0 v0 a1 v1 r w h hw f0 f1 H
  replace H : Xz (it (fun (self : ((List Ta) × (List Ta)) → Option (Bool)) (s : (List Ta) × (List Ta)) => Xz self s.1 s.2) mm) a0 a1 = some r := H
  generalize it (fun (self : ((List Ta) × (List Ta)) → Option (Bool)) (s : (List Ta) × (List Ta)) => Xz self s.1 s.2) mm = self at H ih
  refine enter (n := 8) func55 rfl rfl rfl Ys [] (Sat.nil _ _)<|Jc<|Ja<|ag (.bool false)<|Jd<|Jc<|Ja<|mv v0<|mv v1<|?_
  obtain ⟨t7, h_t7, H2⟩ := Je H; clear H
  refine Qt (fun w hF hS => k99 (Ju w) (f0.mono (hw.now hF)) (f1.mono (hw.now hF)) (FnH.mk ⟨100, #[], #[], rfl, call100, fun args2 post2 w2 hk2 hR2 => by obtain ⟨a0_, v0_1_2_, v0_1_3_, v0_1_4_, a1_, v1_1_2_, v1_1_3_, v1_1_4_, r_, fa0_1_2_, fa0_1_3_, fa0_1_4_, fa1_1_2_, fa1_1_3_, fa1_1_4_, rfl, H_, rfl⟩ := hR2; exact k100_b ih (Ju w2) fa0_1_2_ fa0_1_3_ fa0_1_4_ fa1_1_2_ fa1_1_3_ fa1_1_4_ H_⟩) h_t7) call99 rfl rfl rfl<|ag (.bool t7)<|Jd<|Ji<|?_
  obtain rfl := sj H2
  exact r1 (.bool t7)
theorem k55 {a0 : (List Ta)} {v0 : Value} {a1 : (List Ta)} {v1 : Value} {r : Bool} {w : World} {h : Jw} (hw : Know h w Ys) (f0 : FrN h 6 v0 g_tag_Entry a0) (f1 : FrN h 6 v1 g_tag_Entry a1) (H : Jeb a0 a1 = some r) : Does prog 55 (List.toArray [v0, v1]) w (fun v w' => v = (.bool r) ∧ Grow w w') := by
 obtain ⟨mm, hm⟩ := Jfz (show Yz (fun (self : ((List Ta) × (List Ta)) → Option (Bool)) (s : (List Ta) × (List Ta)) => Xz self s.1 s.2) (a0, a1) = some r from H)
 exact k55_it mm hw f0 f1 hm
theorem k29 {a0 : Td} {v0_1 : Value} {a1 : Td} {v1_1 : Value} {r : Bool} {w : World} {h : Jw} (hw : Know h w Ys) (f0_1 : FrN h 1 v0_1 gs_tag_Entry a0.kag) (f1_1 : FrN h 1 v1_1 gs_tag_Entry a1.kag) (H : Jbf a0 a1 = some r) : Does prog 29 (List.toArray [.agg #[.bool a0.Big, v0_1], .agg #[.bool a1.Big, v1_1]]) w (fun v w' => v = (.bool r) ∧ Grow w w') := by
 refine enter (n := 17) func29 rfl rfl rfl Ys [] (Sat.nil _ _)<|Jc<|Ja<|?_
 refine Vv (cs := [.bool a0.Big, v0_1]) rfl rfl rfl rfl (fun b2 => ?_)
 refine Vv (cs := [.bool a1.Big, v1_1]) rfl rfl rfl rfl (fun b3 => ?_)
 refine ag (.bool false)<|Jd<|Jc<|Ja<|lf Tryz.runUnderlying24 rfl sizeOf4 rfl<|ll 0 (.bool a0.Big) isAgg4<|lf Tryz.runUnderlying24 rfl sizeOf4 rfl<|ll 1 (.bool a1.Big) isAgg4<|lv (r_eqlB underlying4 rfl rfl)<|mv (.bool (decide (a0.Big = a1.Big)))<|?_
 revert H
 refine sp (fun hb H4=>?_) fun hb H6=>?_
 ·refine lf Tryz.runUnderlying24 rfl sizeOf22 rfl<|ll 0 v0_1 isAgg22<|lf Tryz.runUnderlying24 rfl sizeOf22 rfl<|ll 1 v1_1 isAgg22<|?_
  obtain ⟨t15, h_t15, H5⟩ := Je H4; clear H4
  refine Qt (fun w hF hS => k54 (Ju w) (f0_1.mono (hw.now hF)) (f1_1.mono (hw.now hF)) (FnH.mk ⟨55, #[], #[], rfl, call55, fun args2 post2 w2 hk2 hR2 => by obtain ⟨a0_, v0_, a1_, v1_, r_, fa0_, fa1_, rfl, H_, rfl⟩ := hR2; exact k55 (Ju w2) fa0_ fa1_ H_⟩) h_t15) call54 rfl rfl rfl<|pT (.bool t15)<|ag (.bool t15)<|Jd<|Ji<|?_
  obtain rfl := sj H5
  exact r1 (.bool t15)
 ·refine pa<|pa<|pa<|pa<|pa<|pF (.bool false)<|ag (.bool false)<|Jd<|Ji<|?_
  obtain rfl := sj H6
  exact r1 (.bool false)
theorem k11 {a0 : Td} {v0_1 : Value} {a1 : Int} {a2 : Td} {v2_1 : Value} {a3 : Int} {r : Bool} {w : World} {h : Jw} (hw : Know h w Ys) (f0_1 : FrN h 1 v0_1 gs_tag_Entry a0.kag) (f2_1 : FrN h 1 v2_1 gs_tag_Entry a2.kag) (H : Jgc a0 a1 a2 a3 = some r) : Does prog 11 (List.toArray [.agg #[.bool a0.Big, v0_1], i6 a1, .agg #[.bool a2.Big, v2_1], i6 a3]) w (fun v w' => v = (.bool r) ∧ Grow w w') := by
 refine enter (n := 20) func11 rfl rfl rfl Ys [] (Sat.nil _ _)<|Jc<|Ja<|?_
 refine Vv (cs := [.bool a0.Big, v0_1]) rfl rfl rfl rfl (fun b2 => ?_)
 refine Vv (cs := [.bool a2.Big, v2_1]) rfl rfl rfl rfl (fun b3 => ?_)
 refine ag (.bool false)<|Jd<|?_
 refine Qe (r := r) (σ := Bool × (List (List Ta))) (τ := Value) (fun s => Jdr a0 a1 a3 s.1 s.2) (fun s t => [(1, i6 a1), (3, i6 a3), (4, pz b2), (6, pz b3)]) (fun s t => [Jn b2 [.bool a0.Big, v0_1] 24, Jn b3 [.bool s.1, t] 24]) (fun s t => FrN h 1 t gs_tag_Entry s.2) ?_ ?_
 ·refine Jc<|Ja<|mv (i6 a3)<|lv (Vk rfl rfl)<|Jd<|?_
  revert H
  refine ci (decide (a3 ≠ 0)) rfl (fun hb H11=>?_) fun hb H12=>?_
  ·refine Ja<|lv (Yi (pl := #[(0, 1), (1, 1)]) (ps := []) (cells := #[.bool false, z0s]) zeroValue24 Tryz.runUnderlying24 (fun w => by kernel_rfl) rfl rfl)<|st (i := 1) [.bool false, z0s] [.bool false, z0s] Tryz.sizeOf24 rfl rfl<|Jd<|?_
   exact cl (false, ([] : (List (List Ta)))) (z0s) 0 [0, 1] (by exact ⟨H11, (FrN.nil _ _ _)⟩)
  ·refine Jh ?_
   exact cl (a2.Big, a2.kag) v2_1 0 [0, 1] (by exact ⟨H12, f2_1⟩)
 ·rintro ⟨m, m_2⟩ gv gg H7 gf
  try dsimp only at H7
  try dsimp only
  refine Jc<|Ja<|Q0 (i := 0) (vs := [.bool a0.Big, v0_1]) isAgg24 Tryz.sizeOf24 rfl rfl rfl rfl rfl<|Q0 (i := 1) (vs := [.bool m, gv]) isAgg24 Tryz.sizeOf24 rfl rfl rfl rfl rfl<|?_
  obtain ⟨t14, h_t14, H8⟩ := Je H7; clear H7
  refine Qt (fun w hF hS => k29 (Ju w) (f0_1.mono (hw.now hF)) (gf.mono (hw.now hF)) h_t14) call29 rfl rfl rfl<|mv (.bool t14)<|?_
  revert H8
  refine sp (fun hb H9=>?_) fun hb H10=>?_
  ·refine mv (i6 a1)<|mv (i6 a3)<|lv (Qd rfl rfl)<|pT (.bool (decide (a1 = a3)))<|ag (.bool (decide (a1 = a3)))<|Jd<|Ji<|?_
   obtain rfl := sj H9
   exact r1 (.bool (decide (a1 = a3)))
  ·refine pa<|pa<|pa<|pF (.bool false)<|ag (.bool false)<|Jd<|Ji<|?_
   obtain rfl := sj H10
   exact r1 (.bool false)
theorem k3 {a0 : Td} {v0_1 : Value} {a1 : (List UInt8)} {r : Bool} {w : World} {h : Jw} (hw : Know h w Ys) (f0_1 : FrN h 1 v0_1 gs_tag_Entry a0.kag) (tb_pow10 : TabH prog h "internal/strconv.uint64pow10" .u64 Lib.pow10Tab) (H : Jd2 a0 a1 = some r) : Does prog 3 (List.toArray [.agg #[.bool a0.Big, v0_1], str a1]) w (fun v w' => v = (.bool r) ∧ Grow w w') := by
 refine enter (n := 69) func3 rfl rfl rfl Ys [] (Sat.nil _ _)<|Jcy Wa<|Jc<|Ja<|?_
 refine Vv (cs := [.bool a0.Big, v0_1]) rfl rfl rfl rfl (fun b4 => ?_)
 refine ag (.bool false)<|Jd<|Jc<|Ja<|Q0 (i := 1) (vs := [.bool a0.Big, v0_1]) isAgg24 Tryz.sizeOf24 rfl rfl rfl rfl rfl<|?_
 obtain ⟨t18, h_t18, H24⟩ := Je H; clear H
 refine Qt (fun w hF hS => k5 (Ju w) (f0_1.mono (hw.now hF)) h_t18) call5 rfl rfl rfl<|ag (i6 t18)<|Jd<|Jc<|Ja<|ag (str [])<|Jd<|?_
 refine Qe (r := r) (σ := Int × (List UInt8)) (τ := Unit) (fun s => Wu a0 a1 s.1 s.2) (fun s t => [(1, str a1), (2, pz b4), (5, i6 s.1), (6, str s.2)]) (fun s t => [Vi Wa Wa, Jn b4 [.bool a0.Big, v0_1] 24]) (fun s t => True) ?_ ?_
 ·refine Jc<|Ja<|mv (i6 t18)<|lv (Qd rfl rfl)<|Jd<|?_
  revert H24
  refine ci (decide (t18 = 0)) rfl (fun hb H42=>?_) fun hb H46=>?_
  ·refine Jc<|Ja<|Q0 (i := 1) (vs := [.bool a0.Big, v0_1]) isAgg24 Tryz.sizeOf24 rfl rfl rfl rfl rfl<|?_
   obtain ⟨t22, h_t22, H43⟩ := Je H42; clear H42
   refine Qt (fun w hF hS => k6 (Ju w) (f0_1.mono (hw.now hF)) (tb_pow10.mono (hw.now hF)) h_t22) call6 rfl rfl rfl<|ag (str t22)<|Jd<|Jc<|Ja<|mv (str t22)<|lv (Xc Tryz.underlying9 rfl)<|lv (Ye rfl rfl)<|Jd<|?_
   revert H43
   refine ci (decide (1000000 < (t22.l : Int))) rfl (fun hb H44=>?_) fun hb H45=>?_
   ·refine Ja<|ag (i6 4)<|Jd<|?_
    exact cl (4, t22) () 0 [0, 1] (by exact ⟨H44, trivial⟩)
   ·refine Jh ?_
    exact cl (t18, t22) () 0 [0, 1] (by exact ⟨H45, trivial⟩)
  ·refine Jh ?_
   exact cl (t18, []) () 0 [0, 1] (by exact ⟨H46, trivial⟩)
 ·rintro ⟨x5, x6⟩ _ gg H25 _
  try dsimp only at H25
  try dsimp only
  refine Jc<|Ja<|Q0 (i := 1) (vs := [.bool a0.Big, v0_1]) isAgg24 Tryz.sizeOf24 rfl rfl rfl rfl rfl<|?_
  obtain ⟨t28, h_t28, H26⟩ := Je H25; clear H25
  refine Qt (fun w hF hS => k7 (Ju w) (f0_1.mono (hw.now hF)) (tb_pow10.mono (hw.now hF)) h_t28) call7 rfl rfl rfl<|mv (.tuple #[str t28.1, i6 t28.2])<|lv (Jo (v := str t28.1) rfl rfl)<|lv (Jo (v := i6 t28.2) rfl rfl)<|ag (str t28.1)<|ag (i6 t28.2)<|Jd<|Jc<|Jc<|Ja<|mv (str t28.1)<|mv (i6 t28.2)<|mv (str x6)<|mv (i6 x5)<|?_
  obtain ⟨t35, h_t35, H27⟩ := Je H26; clear H26
  refine Qm (k8 h_t35) call8 rfl rfl rfl<|lv (Jay rfl)<|Jd<|?_
  revert H27
  refine ci (!t35) rfl (fun hb H28=>?_) fun hb H29=>?_
  ·refine Jc<|Ja<|ag (.bool false)<|Jd<|Ji<|?_
   obtain rfl := sj H28
   exact r1 (.bool false)
  ·refine Jh<|Jc<|Jc<|Ja<|mv (str a1)<|mv (str x6)<|?_
   refine Q9 (vs := [str a1, str x6]) (cs := [str a1, str x6]) Tryz.underlying31 Tryz.sizeOf9 zeroValue9 rfl rfl rfl rfl rfl rfl rfl (fun b5 => ?_)
   refine lv (Wl Tryz.underlying31 rfl)<|mv (i6 0)<|Jd<|Jp<|Ur 1<|?_
   try dsimp only [z1, z2, z3, z4, z5, z6, z7, z8]
   refine Xu (σ := Int) (τ := Jw) (fun next2 s => Xs a1 x6 next2 s) (fun s t => [(39, .slice (some ⟨b5, 0, none⟩) 2 2), (40, i6 2), (41, i6 s)]) (fun s t => [Vi Wa t, Jn b5 [str a1, str x6] 9]) (fun s t => True) 0 Wa [0, 1] H29 (by exact trivial) (by exact ⟨rfl, rfl, rfl, trivial⟩) (by decide) rfl ?_
   rintro x41_2 hp m2 gg H30 _
   clear H29
   try dsimp only at H30
   generalize hn2 : it (fun next2 s => Xs a1 x6 next2 s) m2 = next2 at H30
   try dsimp only
   refine Jc<|Ja<|lv (Xk rfl rfl)<|Jd<|Jc<|?_
   revert H30
   refine ci (decide (x41_2 < 2)) rfl (fun hb H31=>?_) fun hb H41=>?_
   ·refine Jh<|Jc<|Jp<|Jc<|Ja<|?_
    obtain ⟨t43, h_t43, H32⟩ := Je H31; clear H31
    refine lv (r_indexS Tryz.underlying31 Tryz.sizeOf9 rfl rfl h_t43 rfl)<|Qf (fun w hF hS => Qb (f := Jz) (i := x41_2) (sz := 1) (j := 0) (v := str t43) Tryz.isAgg9 rfl rfl (W8 (sz := 1) (xs := ([a1, x6] : List (List UInt8)).map Jz) (i := 1) hS rfl rfl rfl) h_t43 rfl) rfl rfl rfl<|ag (str t43)<|Jd<|Jc<|Ja<|mv (str t43)<|?_
    obtain ⟨t47, h_t47, H33⟩ := Je H32; clear H32
    refine Zy (Xr (rds := []) (fun w L' hF hS hi => k9 (Ju w) (tb_pow10.mono (hw.now hF)) h_t47) call9 rfl) rfl rfl rfl (fun p => ?_)
    refine Jh2 2 rfl (fun hp_2 pf => ?_)
    refine Jem 0 2 rfl rfl (by decide) (fun _ _ => Jbr) (fun hp_3 hle hle_2 => ?_)
    refine mv (.tuple #[.agg #[.bool t47.1.Big, (sl p t47.1.kag.l)], i6 t47.2.1, i6 t47.2.2])<|lv (Jo (v := .agg #[.bool t47.1.Big, (sl p t47.1.kag.l)]) rfl rfl)<|lv (Jo (v := i6 t47.2.1) rfl rfl)<|lv (Jo (v := i6 t47.2.2) rfl rfl)<|?_
    refine Xi (cs := [.bool false, z0s]) zeroValue24 rfl rfl rfl (fun b6 => ?_)
    refine Qu (i := 3) (vs := [.bool t47.1.Big, (sl p t47.1.kag.l)]) (cs' := [.bool t47.1.Big, (sl p t47.1.kag.l)]) Tryz.sizeOf24 rfl rfl rfl rfl rfl rfl (by simp only [List.all_cons, List.all_nil, (pf.mono hle_2).one] <;> rfl) rfl rfl<|ag (i6 t47.2.1)<|ag (i6 t47.2.2)<|Jd<|Jc<|Ja<|mv (str t43)<|?_
    obtain ⟨t53, h_t53, H34⟩ := Je H33; clear H33
    refine Zy (Xr (rds := []) (fun w L' hF hS hi => k10 (Ju w)  h_t53) call10 rfl) rfl rfl rfl (fun p_2 => ?_)
    refine Jh2 4 rfl (fun hp_4 pf_2 => ?_)
    refine Jem 0 4 rfl rfl (by decide) (fun _ _ => Jbr) (fun hp_5 hle_3 hle_4 => ?_)
    refine mv (.tuple #[.agg #[.bool t53.1.Big, (sl p_2 t53.1.kag.l)], i6 t53.2.1, i6 t53.2.2])<|lv (Jo (v := .agg #[.bool t53.1.Big, (sl p_2 t53.1.kag.l)]) rfl rfl)<|lv (Jo (v := i6 t53.2.1) rfl rfl)<|lv (Jo (v := i6 t53.2.2) rfl rfl)<|?_
    refine Xi (cs := [.bool false, z0s]) zeroValue24 rfl rfl rfl (fun b7 => ?_)
    refine Qu (i := 5) (vs := [.bool t53.1.Big, (sl p_2 t53.1.kag.l)]) (cs' := [.bool t53.1.Big, (sl p_2 t53.1.kag.l)]) Tryz.sizeOf24 rfl rfl rfl rfl rfl rfl (by simp only [List.all_cons, List.all_nil, (pf_2.mono hle_4).one] <;> rfl) rfl rfl<|ag (i6 t53.2.1)<|ag (i6 t53.2.2)<|Jd<|Jc<|?_
    try dsimp only [z1,z2,z5,z6,z7,z8]
    refine Ja<|mv (i6 t47.2.1)<|mv (i6 t53.2.1)<|lv (Vk rfl rfl)<|mv (.bool (decide (t47.2.1 ≠ t53.2.1)))<|?_
    revert H34
    refine sp (fun hb H35=>?_) fun hb H36=>?_
    ·refine pa<|pa<|pa<|pa<|pa<|pa<|pT (.bool true)<|Jd<|Yc rfl<|Jc<|Ja<|ag (.bool false)<|Jd<|Ji<|?_
     obtain rfl := sj H35
     exact r1 (.bool false)
    ·refine Q0 (i := 3) (vs := [.bool t47.1.Big, (sl p t47.1.kag.l)]) isAgg24 Tryz.sizeOf24 rfl rfl rfl rfl rfl<|mv (i6 t47.2.2)<|Q0 (i := 5) (vs := [.bool t53.1.Big, (sl p_2 t53.1.kag.l)]) isAgg24 Tryz.sizeOf24 rfl rfl rfl rfl rfl<|mv (i6 t53.2.2)<|?_
     obtain ⟨t65, h_t65, H37⟩ := Je H36; clear H36
     refine Qt (fun w hF hS => k11 (Ju w) (((pf.mono hle_2).mono hle_3).mono (Jdq (i := 0) hS rfl Jbr)) ((pf_2.mono hle_4).mono (Jdq (i := 0) hS rfl Jbr)) h_t65) call11 rfl rfl rfl<|lv (Jay rfl)<|pF (.bool (!t65))<|Jd<|?_
     revert H37
     refine ci (!t65) rfl (fun hb H38=>?_) fun hb H39=>?_
     ·refine Jc<|Ja<|ag (.bool false)<|Jd<|Ji<|?_
      obtain rfl := sj H38
      exact r1 (.bool false)
     ·refine Jh<|Ja<|?_
      obtain ⟨t68, h_t68, H40⟩ := Je H39; clear H39
      refine lv (J8 rfl rfl h_t68)<|mv (i6 t68)<|Jd<|?_
      exact cl t68 hp_5 m2 [0, 1] (by exact ⟨(by subst hn2; exact H40), trivial⟩)
   ·refine Qp<|Jc<|Ja<|ag (.bool true)<|Jd<|Ji<|?_
    obtain rfl := sj H41
    exact r1 (.bool true)
end Go.Proofs.YtkbiccgjkiifpaaGreatDoor

namespace Go.Pl
open Go.Md
end Go.Pl

namespace Go.Pl
open Go.Md
theorem Jig {α ρ : Type} {F : (α → Option ρ) → α → Option ρ} (I : α → Prop) (μ : α → Nat) (Jax : ρ → Prop)
  (step : ∀ a, I a → (∃ r, Jax r ∧ ∀ next, F next a = some r) ∨ (∃ b, I b ∧ μ b < μ a ∧ ∀ next, F next a = next b)) (a : α) (ha : I a) : ∃ r, Yz F a = some r ∧ Jax r := by
 have key : ∀ n a, I a → μ a < n → ∃ r, Yz F a = some r ∧ Jax r := by
  intro n
  induction n with
  | zero => intro a _ h; omega
  | succ n ih =>
   intro a ha h
   rcases step a ha with ⟨r, h1, h2⟩ | ⟨b, h1, h2, h3⟩
   ·exact ⟨r, Ql h2, h1⟩
   ·rw [X2 b h3]; exact ih b h1 (by omega)
 exact key (μ a + 1) a ha (by omega)
theorem Jhy {ρ : Type} {F : (Int → Option ρ) → Int → Option ρ} {o : Option ρ} (i e : Nat) (hie : i ≤ e) (more : ∀ (next : Int → Option ρ) (k : Nat), i ≤ k → k < e → F next (k : Int) = next ((k : Int) + 1)) (stop : ∀ next, F next (e : Int) = o) : Yz F (i : Int) = o := by
 have key : ∀ n k, i ≤ k → k ≤ e → e - k < n → Yz F (k : Int) = o := by
  intro n
  induction n with
  | zero => intro k _ _ h; omega
  | succ n ih =>
   intro k h1 h2 h3
   rcases Nat.lt_or_ge k e with h | h
   ·rw [X2 ((k : Int) + 1) (fun next => more next k h1 h)]; exact ih (k + 1) (by omega) (by omega) (by omega)
   ·have : k = e := by omega
    subst this; exact Ql stop
 exact key (e - i + 1) i (Nat.le_refl _) hie (by omega)
theorem Jfa {α ρ σ : Type} {F : (Int × σ → Option ρ) → Int × σ → Option ρ} (xs : List α) (f : σ → α → σ) (J : σ → Option ρ) (I : Nat → σ → Prop)
  (more : ∀ (next : Int × σ → Option ρ) (k : Nat) (s : σ) (hk : k < xs.length), I k s → F next ((k : Int), s) = next ((k : Int) + 1, f s xs[k]) ∧ I (k + 1) (f s xs[k]))
  (stop : ∀ (next : Int × σ → Option ρ) (s : σ), I xs.length s → F next ((xs.length : Int), s) = J s) (s : σ) (hs : I 0 s) : Yz F (0, s) = J (xs.foldl f s) := by
 have key : ∀ n k s, k ≤ xs.length → xs.length - k < n → I k s → Yz F ((k : Int), s) = J ((xs.drop k).foldl f s) := by
  intro n
  induction n with
  | zero => intro k s _ h; omega
  | succ n ih =>
   intro k s hk h hI
   rcases Nat.lt_or_ge k xs.length with h1 | h1
   ·rw [X2 ((k : Int) + 1, f s xs[k]) (fun next => (more next k s h1 hI).1), List.drop_eq_getElem_cons h1, List.foldl_cons]
    exact ih (k + 1) _ (by omega) (by omega) (more (fun _ => none) k s h1 hI).2
   ·have : k = xs.length := by omega
    subst this
    rw [List.drop_length]
    exact Ql fun next => stop next s hI
 have := key (xs.length + 1) 0 s (Nat.zero_le _) (by omega) hs
 simpa using this
theorem Jfb {α β : Type} (f : α → β) : ∀ (xs : List α) (s : List β), xs.foldl (fun s x => s ++ [f x]) s = s ++ xs.map f
 | [], s => by simp
 | x :: xs, s => by rw [List.foldl_cons, Jfb f xs]; simp
end Go.Pl

namespace Go.M
open Go.Md Go.Pl
theorem cI {α : Type} {p : Prop} [Decidable p] {x y : Option α} : J2 (decide p) x y = if p then x else y := Qn ..
theorem Jjn {α ρ γ : Type} {F : (α → Option ρ) → α → Option ρ} (spec : γ → α → Option ρ) (I : γ → α → Prop) (μ : γ → Nat)
  (step : ∀ (next : α → Option ρ) (g : γ) (a : α), I g a → (∀ g' b, I g' b → μ g' < μ g → next b = spec g' b) → F next a = spec g a) (g : γ) (a : α) (ha : I g a) : Yz F a = spec g a := by
 have key : ∀ (n : Nat) (g : γ) (a : α), I g a → μ g < n → it F n a = spec g a := by
  intro n
  induction n with
  | zero => intro g a _ h; omega
  | succ n ih => intro g a ha h; exact step _ g a ha fun g' b hb hlt => ih g' b hb (by omega)
 exact Jfp (k := μ g + 1) fun n hn => key n g a ha (by omega)
theorem num_ex (big : Bool) (n : Int) (k : Nat) (hk : k ≤ 8) : ∃ L : List Int, X8 big n k = some (Jaz L) ∧ L.length = k ∧ (∀ x ∈ L, 0 ≤ x ∧ x ≤ 255) ∧ (n = 0 → ∀ x ∈ L, x = 0) := by
 have key : ∀ m i : Nat, i + m = k → ∀ l : List Int, l.length = k → (∀ x ∈ l, 0 ≤ x ∧ x ≤ 255) → (n = 0 → ∀ x ∈ l, x = 0) →
   ∃ L : List Int, Yz (fun next2 s => W3 big n k (List.replicate k 0) next2 s.1 s.2) ((i : Int), l) = some (Jaz L) ∧ L.length = k ∧ (∀ x ∈ L, 0 ≤ x ∧ x ≤ 255) ∧ (n = 0 → ∀ x ∈ L, x = 0) := by
  intro m
  induction m with
  | zero =>
   intro i hi l hl hx hz
   refine ⟨l, Ql fun next => ?_, hl, hx, hz⟩
   ·show W3 big n k _ next (i : Int) l = _
    unfold W3
    rw [cI, if_neg (by rw [List.length_replicate]; omega)]; rfl
  | succ m ih =>
   intro i hi l hl hx hz
   have hs : ∃ y : Int, gShr 64 n (8 * (i : Int)) = some y ∧ (n = 0 → y = 0) := by
    refine ⟨n / 2 ^ min (8 * (i : Int)).toNat 64, if_pos (by omega), fun e => by rw [e]; exact Int.zero_ediv _⟩
   obtain ⟨y, hy, hy0⟩ := hs
   have hp : ∃ q : Nat, q < k ∧ (∀ (next : Int × List Int → Option (List UInt8)), W3 big n k (List.replicate k 0) next (i : Int) l = next ((i : Int) + 1, l.set q (wU8 y))) := by
    cases big
    ·refine ⟨i, by omega, fun next => ?_⟩
     ·unfold W3
      rw [cI, if_pos (by rw [List.length_replicate]; omega), Jy]
      unfold Jdj
      rw [J7 (by omega), Jb, hy, Jb, Qs (by omega), Jb, Jb3 (by omega) (by omega), Jb, J7 (by omega), Jb, Int.toNat_natCast]
    ·refine ⟨k - 1 - i, by omega, fun next => ?_⟩
     ·unfold W3
      rw [cI, if_pos (by rw [List.length_replicate]; omega), Qh, J7 (by omega), Jb, J7 (by omega), Jb]
      unfold Jdj
      rw [J7 (by omega), Jb, hy, Jb, gAt_ok (by omega) (by omega), Jb, Jb3 (by omega) (by omega), Jb, J7 (by omega), Jb, show ((k : Int) - 1 - (i : Int)).toNat = k - 1 - i from by omega]
   obtain ⟨q, hq, h2⟩ := hp
   obtain ⟨L, a2, a3, a4, a5⟩ := ih (i + 1) (by omega) (l.set q (wU8 y)) (by rw [List.length_set]; exact hl) (fun x hxm => by
    rcases List.mem_or_eq_of_mem_set hxm with h | h
    ·exact hx x h
    ·rw [h]; unfold wU8; omega) (fun e x hxm => by
    rcases List.mem_or_eq_of_mem_set hxm with h | h
    ·exact hz e x h
    ·rw [h, hy0 e]; rfl)
   exact ⟨L, (X2 _ h2).trans a2, a3, a4, a5⟩
 obtain ⟨L, a2, a3⟩ := key k 0 (by omega) (List.replicate k 0) (by simp) (fun x hx => by rw [(List.mem_replicate.1 hx).2]; omega) (fun _ x hx => (List.mem_replicate.1 hx).2)
 refine ⟨L, ?_, a3⟩
 ·unfold X8
  rw [Jju (by omega), Jb, Int.toNat_natCast]; exact a2
noncomputable def Wt (big : Bool) (n : Int) (k : Nat) : List UInt8 := (X8 big n k).getD []
theorem num_R (big : Bool) (n : Int) {k : Nat} (hk : k ≤ 8) : X8 big n k = some (Wt big n k) := by
 obtain ⟨L, h2, _⟩ := num_ex big n k hk
 unfold Wt
 rw [h2, Option.getD_some]
theorem Zp (big : Bool) (n : Int) {k : Nat} (hk : k ≤ 8) : (Wt big n k).length = k := by
 obtain ⟨L, h2, h3, _⟩ := num_ex big n k hk
 unfold Wt
 rw [h2, Option.getD_some, Jaz, List.length_map, h3]
theorem num_zero (big : Bool) {k : Nat} (hk : k ≤ 8) : Wt big 0 k = List.replicate k 0 := by
 obtain ⟨L, h2, h3, _, h5⟩ := num_ex big 0 k hk
 have : L = List.replicate k 0 := List.eq_replicate_iff.2 ⟨h3, h5 rfl⟩
 unfold Wt
 rw [h2, Option.getD_some, Jaz, this, List.map_replicate]; rfl
theorem R2 (big : Bool) (n : Int) : X8 big n 2 = some (Wt big n 2) := num_R big n (k := 2) (by omega)
theorem R4 (big : Bool) (n : Int) : X8 big n 4 = some (Wt big n 4) := num_R big n (k := 4) (by omega)
def Ja0 (k : Int) : Nat := if k = 1 ∨ k = 2 ∨ k = 7 then 1 else if k = 3 then 2 else if k = 4 ∨ k = 9 then 4 else if k = 5 then 8 else 0
theorem Jfg (k : Int) : Ja0 k ≤ 8 := by unfold Ja0; (repeat' split) <;> omega
theorem sizeOf_eq (k : Int) : Jb4 k = some (if k = 13 then 1 else (Ja0 k : Int)) := by
 unfold Jb4 Jap Ja0
 by_cases h1 : k = 1
 ·subst h1; rfl
 by_cases h2 : k = 2
 ·subst h2; rfl
 by_cases h3 : k = 3
 ·subst h3; rfl
 by_cases h4 : k = 4
 ·subst h4; rfl
 by_cases h5 : k = 5
 ·subst h5; rfl
 by_cases h7 : k = 7
 ·subst h7; rfl
 by_cases h9 : k = 9
 ·subst h9; rfl
 by_cases h13 : k = 13
 ·subst h13; rfl
 simp [h1, h2, h3, h4, h5, h7, h9, h13, Jy]
theorem wide_eq (k : Int) : Jgk k = some (if k = 13 then 4 else (Ja0 k : Int)) := by
 unfold Jgk Je5 Ja0
 by_cases h1 : k = 1
 ·subst h1; rfl
 by_cases h2 : k = 2
 ·subst h2; rfl
 by_cases h3 : k = 3
 ·subst h3; rfl
 by_cases h4 : k = 4
 ·subst h4; rfl
 by_cases h5 : k = 5
 ·subst h5; rfl
 by_cases h7 : k = 7
 ·subst h7; rfl
 by_cases h9 : k = 9
 ·subst h9; rfl
 by_cases h13 : k = 13
 ·subst h13; rfl
 simp [h1, h2, h3, h4, h5, h7, h9, h13, Jy]
def Jbo (k : Int) : Prop := k = 1 ∨ k = 3 ∨ k = 4 ∨ k = 9
def Wp (k : Int) : Prop := k = 2 ∨ k = 7
instance (k : Int) : Decidable (Jbo k) := by unfold Jbo; infer_instance
instance (k : Int) : Decidable (Wp k) := by unfold Wp; infer_instance
def Jcv (k : Int) : Prop := Jbo k ∨ Wp k ∨ k = 5 ∨ k = 13
instance (k : Int) : Decidable (Jcv k) := by unfold Jcv; infer_instance
def Jf7 (v : Tb) : Prop := (¬ Jbo v.kad ∧ v.kaf ≠ []) ∨ (¬ Wp v.kad ∧ v.kae ≠ []) ∨ (v.kad ≠ 5 ∧ v.kac ≠ []) ∨ (v.kad ≠ 13 ∧ v.kab ≠ [])
noncomputable def Yj (v : Tb) : Int := open Classical in if ¬ Jcv v.kad then 10 else if Jf7 v then 1 else 0
theorem Jc2 {α : Type} (l : List α) : (0 : Int) < (l.length : Int) ↔ l ≠ [] := by
 cases l <;> simp <;> omega
theorem Je4 (k : Int) (h : k ≠ 13) : (Ja0 k : Int) = 0 ↔ ¬ Jcv k := by
 unfold Ja0 Jcv Jbo Wp
 split
 ·omega
 ·split
  ·omega
  ·split
   ·omega
   ·split <;> omega
theorem j3_fields (v : Tb) (b : Bool) : Wd v b = some (open Classical in if b = true ∨ (v.kad ≠ 13 ∧ v.kab ≠ []) then 1 else 0) := by
 unfold Wd
 cases b
 ·rw [Jy, cI, cI]
  by_cases h1 : v.kad ≠ 13
  ·by_cases h2 : v.kab = []
   ·rw [if_pos h1, if_neg (by rw [Jc2]; simpa using h2), if_neg (by simp [h2])]
   ·rw [if_pos h1, if_pos ((Jc2 _).2 h2), if_pos (.inr ⟨h1, h2⟩)]
  ·rw [if_neg h1, if_neg (by simp [h1])]
 ·rw [Qh, Qh, if_pos (.inl rfl)]
theorem j2_fields (v : Tb) (b : Bool) : Wf v b = some (open Classical in if b = true ∨ (v.kad ≠ 5 ∧ v.kac ≠ []) ∨ (v.kad ≠ 13 ∧ v.kab ≠ []) then 1 else 0) := by
 unfold Wf
 cases b
 ·rw [Jy, cI, j3_fields, j3_fields]
  by_cases h1 : v.kad ≠ 5
  ·rw [if_pos h1]
   congr 1
   by_cases h2 : v.kac = []
   ·simp [h2]
   ·simp [h2, h1, List.length_pos_iff]
  ·rw [if_neg h1]; simp [h1]
 ·rw [Qh, Qh, if_pos (.inl rfl)]
theorem j1_fields (v : Tb) (b : Bool) : Wc v b = some (open Classical in if b = true ∨ (¬ Wp v.kad ∧ v.kae ≠ []) ∨ (v.kad ≠ 5 ∧ v.kac ≠ []) ∨ (v.kad ≠ 13 ∧ v.kab ≠ []) then 1 else 0) := by
 have ht : Jb7 v.kad = some (decide (Wp v.kad)) := by
  unfold Jb7 Wp
  rw [cI]
  by_cases h : v.kad = 2
  ·simp [h]
  ·simp [h]
 unfold Wc
 cases b
 ·rw [Jy, ht, Jb, j2_fields, j2_fields]
  by_cases h1 : Wp v.kad
  ·rw [decide_eq_true h1]
   show J2 false _ _ = _
   rw [Jy]; simp [h1]
  ·rw [decide_eq_false h1]
   show J2 true _ _ = _
   rw [Qh]; simp [h1]
 ·rw [Qh, Qh, if_pos (.inl rfl)]
theorem Jep (v : Tb) : Wv v = some (Yj v) := by
 have hi : Jfq v.kad = some (decide (Jbo v.kad)) := by
  unfold Jfq Jbo
  rw [cI, cI, cI]
  by_cases h : v.kad = 1
  ·simp [h]
  by_cases h3 : v.kad = 3
  ·simp [h3]
  by_cases h4 : v.kad = 4
  ·simp [h4]
  simp [h, h3, h4]
 unfold Wv Yj
 rw [sizeOf_eq, Jb, cI]
 by_cases hk : Jcv v.kad
 ·have hz : ¬ (if v.kad = 13 then (1 : Int) else (Ja0 v.kad : Int)) = 0 := by
   by_cases h13 : v.kad = 13
   ·rw [if_pos h13]; omega
   ·rw [if_neg h13]; exact fun e => (Je4 _ h13).1 e hk
  rw [if_neg hz, hi, Jb, j1_fields, j1_fields, if_neg (show ¬ ¬ Jcv v.kad from fun h => h hk)]
  by_cases h1 : Jbo v.kad
  ·rw [decide_eq_true h1]
   show J2 false _ _ = _
   rw [Jy]; unfold Jf7; simp [h1]
  ·rw [decide_eq_false h1]
   show J2 true _ _ = _
   rw [Qh]; unfold Jf7; simp [h1, List.length_pos_iff]
 ·have h13 : v.kad ≠ 13 := fun e => hk (.inr (.inr (.inr e)))
  rw [if_neg h13, if_pos ((Je4 _ h13).2 hk), if_pos hk]
def Jet (k : Int) : Int × Int := if k = 1 then (0, 255) else if k = 3 then (0, 65535) else if k = 9 then (-2147483648, 2147483647) else (0, 4294967295)
theorem bounds_eq (k : Int) : Jf4 k = some (Jet k) := by
 unfold Jf4 Jet
 rw [cI, cI, cI]; (repeat' split) <;> rfl
theorem limits_eq (k : Int) : Jhv k = some (Jet k) := by
 unfold Jhv Jet
 rw [cI, cI, cI]; (repeat' split) <;> rfl
theorem Jjj (a b c : Int) : Jbb a b c = some (decide (a < b ∨ c < a)) := by
 unfold Jbb
 rw [cI]
 by_cases h : a < b
 ·rw [if_pos h]; simp [h]
 ·rw [if_neg h]; simp [h]
def ratP (r : Tc) : Prop := (r.Num < 0 ∨ 4294967295 < r.Num) ∨ (r.Den < 0 ∨ 4294967295 < r.Den)
noncomputable def Jcp (v : Tb) : Int := open Classical in
 if Yj v ≠ 0 then Yj v else if ∃ n ∈ v.kaf, n < (Jet v.kad).1 ∨ (Jet v.kad).2 < n then 2 else if ∃ r ∈ v.kac, ratP r then 2 else if v.kad = 2 ∧ (0 : UInt8) ∈ v.kae then 9 else 0
theorem Jff {α : Type} {F : (Int → Option Int) → Int → Option Int} (xs : List α) (p : α → Prop) (e : Int) (o : Option Int) (more : ∀ (next : Int → Option Int) (k : Nat) (hk : k < xs.length), (p xs[k] → F next (k : Int) = some e) ∧ (¬ p xs[k] → F next (k : Int) = next ((k : Int) + 1))) (stop : ∀ next, F next (xs.length : Int) = o) :
  Yz F 0 = open Classical in if ∃ x ∈ xs, p x then some e else o := by
 have key : ∀ m i : Nat, i + m = xs.length → Yz F (i : Int) = open Classical in if ∃ x ∈ xs.drop i, p x then some e else o := by
  intro m
  induction m with
  | zero =>
   intro i hi
   have : i = xs.length := by omega
   subst this
   rw [List.drop_length, if_neg (by simp)]
   exact Ql stop
  | succ m ih =>
   intro i hi
   have hlt : i < xs.length := by omega
   rw [List.drop_eq_getElem_cons hlt]
   by_cases hp : p xs[i]
   ·rw [if_pos ⟨_, List.mem_cons_self, hp⟩]
    exact Ql fun next => (more next i hlt).1 hp
   ·rw [X2 ((i : Int) + 1) (fun next => (more next i hlt).2 hp)]
    have := ih (i + 1) (by omega)
    rw [show ((i : Int) + 1) = ((i + 1 : Nat) : Int) from rfl, this]
    congr 1
    apply propext
    constructor
    ·rintro ⟨x, hx, h⟩; exact ⟨x, List.mem_cons_of_mem _ hx, h⟩
    ·rintro ⟨x, hx, h⟩
     rcases List.mem_cons.1 hx with h' | h'
     ·subst h'; exact absurd h hp
     ·exact ⟨x, h', h⟩
 have := key xs.length 0 (by omega)
 rw [List.drop_zero] at this
 exact this
def vB (v : Tb) : Prop := v.kae.length ≤ 2000000 ∧ v.kaf.length ≤ 2000000 ∧ v.kac.length ≤ 2000000
theorem j2_plain {v : Tb} (hb : vB v) : W5 v = some (open Classical in if v.kad = 2 ∧ (0 : UInt8) ∈ v.kae then 9 else 0) := by
 unfold W5
 rw [cI]
 by_cases h2 : v.kad = 2
 ·rw [if_pos h2, Jff v.kae (fun c => c = 0) 9 (some 0) (fun next k hk => ?_) (fun next => ?_)]
  ·congr 1
   by_cases hm : (0 : UInt8) ∈ v.kae
   ·rw [if_pos ⟨0, hm, rfl⟩, if_pos ⟨h2, hm⟩]
   ·rw [if_neg (fun ⟨x, hx, e⟩ => hm (e ▸ hx)), if_neg (fun h => hm h.2)]
  ·show (_ → Y6 v next (k : Int) = _) ∧ (_ → Y6 v next (k : Int) = _)
   have := hb.1
   unfold Y6
   rw [cI, if_pos (by omega), Jai hk, Jb, cI]
   constructor
   ·intro e; rw [if_pos (by rw [e]; rfl)]
   ·intro e
    have : v.kae[k].toNat ≠ 0 := fun h => e (by rw [← UInt8.ofNat_toNat (x := v.kae[k]), h]; rfl)
    rw [if_neg (by omega), J7 (by omega), Jb]
  ·show Y6 v next (v.kae.length : Int) = _
   unfold Y6
   rw [cI, if_neg (by omega)]
 ·rw [if_neg h2, if_neg (fun h => h2 h.1)]
theorem Jhc {v : Tb} (hb : vB v) : Ja2 v = some (Jcp v) := by
 unfold Ja2 Jcp
 rw [Jep, Jb, cI]
 by_cases hf : Yj v ≠ 0
 ·rw [if_pos hf, if_pos hf]
 rw [if_neg hf, if_neg hf, bounds_eq, Jb]
 rw [Jff (F := fun next5 s => Yf v (Jet v.kad) next5 s) v.kaf (fun n => n < (Jet v.kad).1 ∨ (Jet v.kad).2 < n) 2 (W1 v) (fun next k hk => ?_) (fun next => ?_)]
 ·have e1 : W1 v = some (open Classical in if ∃ r ∈ v.kac, ratP r then 2 else if v.kad = 2 ∧ (0 : UInt8) ∈ v.kae then 9 else 0) := by
   unfold W1
   rw [Jff (F := fun next4 s => Yd v next4 s) v.kac ratP 2 (W5 v) (fun next k hk => ?_) (fun next => ?_), j2_plain hb]
   ·split <;> rfl
   ·show (_ → Yd v next (k : Int) = _) ∧ (_ → Yd v next (k : Int) = _)
    have := hb.2.2
    unfold Yd ratP
    rw [cI, if_pos (by omega), Qs hk, Jb, Jjj, Jb, cI, Jjj, Jb, cI]
    constructor
    ·intro e
     by_cases h1 : v.kac[k].Num < 0 ∨ 4294967295 < v.kac[k].Num
     ·rw [if_pos h1]
     ·rw [if_neg h1, if_pos (e.resolve_left h1)]
    ·intro e
     rw [if_neg (fun h => e (.inl h)), if_neg (fun h => e (.inr h)), J7 (by omega), Jb]
   ·show Yd v next (v.kac.length : Int) = _
    unfold Yd
    rw [cI, if_neg (by omega)]
  rw [e1]; split <;> rfl
 ·show (_ → Yf v _ next (k : Int) = _) ∧ (_ → Yf v _ next (k : Int) = _)
  have := hb.2.1
  unfold Yf
  rw [cI, if_pos (by omega), Qs hk, Jb, Jjj, Jb, cI]
  constructor
  ·intro e; rw [if_pos e]
  ·intro e; rw [if_neg e, J7 (by omega), Jb]
 ·show Yf v _ next (v.kaf.length : Int) = _
  unfold Yf
  rw [cI, if_neg (by omega)]
theorem ixB_mem (c : UInt8) (t : List UInt8) : -1 ≤ ixB t c ∧ (0 ≤ ixB t c ↔ c ∈ t) := by
 induction t with
 | nil => exact ⟨by unfold ixB; omega, by simp [ixB]⟩
 | cons b t ih =>
  unfold ixB
  by_cases hb : b = c
  ·rw [if_pos hb]; exact ⟨by omega, fun _ => by simp [hb], fun _ => by omega⟩
  ·rw [if_neg hb]
   have hc : ¬ c = b := fun e => hb e.symm
   rw [List.mem_cons]
   by_cases h1 : ixB t c = -1
   ·rw [if_pos h1]
    exact ⟨by omega, fun h => by omega, fun h => by have := ih.2.2 (h.resolve_left hc); omega⟩
   ·rw [if_neg h1]
    exact ⟨by omega, fun h => .inr (ih.2.1 (by omega)), fun h => by have := ih.2.2 (h.resolve_left hc); omega⟩
theorem j2_fault {v : Tb} (hb : vB v) (h13 : v.kad ≠ 13) : X5 v = some (open Classical in if ∃ n ∈ v.kaf, n < (Jet v.kad).1 ∨ (Jet v.kad).2 < n then 2 else if ∃ r ∈ v.kac, ratP r then 2 else if v.kad = 2 ∧ (0 : UInt8) ∈ v.kae then 9 else 0) := by
 have e4 : Jah v = some (open Classical in if v.kad = 2 ∧ (0 : UInt8) ∈ v.kae then 9 else 0) := by
  unfold Jah Jb0
  rw [cI, cI, if_neg h13]
  by_cases h2 : v.kad = 2
  ·rw [if_pos h2]
   unfold Jv Q4
   have hx : gIxB v.kae 0 = some (ixB v.kae 0) := by unfold gIxB; rfl
   have hm := (ixB_mem 0 v.kae).2
   rw [hx, Jb, Jb, Jb, cI]
   by_cases h0 : (0 : UInt8) ∈ v.kae
   ·rw [if_pos (hm.2 h0), if_pos ⟨h2, h0⟩]
   ·rw [if_neg (fun h => h0 (hm.1 h)), if_neg (fun h => h0 h.2)]
  ·rw [if_neg h2, if_neg (fun h => h2 h.1)]
 have e3 : Jaf v = some (open Classical in if ∃ r ∈ v.kac, ratP r then 2 else if v.kad = 2 ∧ (0 : UInt8) ∈ v.kae then 9 else 0) := by
  unfold Jaf
  rw [Jff (F := fun next6 s => Zg v next6 s) v.kac ratP 2 (Jah v) (fun next k hk => ?_) (fun next => ?_), e4]
  ·split <;> rfl
  ·show (_ → Zg v next (k : Int) = _) ∧ (_ → Zg v next (k : Int) = _)
   have := hb.2.2
   unfold Zg ratP
   rw [cI, if_pos (by omega), Qs hk, Jb, cI, cI, cI, cI]
   constructor
   ·intro e
    by_cases h1 : v.kac[k].Num < 0
    ·rw [if_pos h1]
    by_cases h2 : 4294967295 < v.kac[k].Num
    ·rw [if_neg h1, if_pos h2]
    by_cases h3 : v.kac[k].Den < 0
    ·rw [if_neg h1, if_neg h2, if_pos h3]
    rw [if_neg h1, if_neg h2, if_neg h3, if_pos (by omega)]
   ·intro e
    rw [if_neg (by omega), if_neg (by omega), if_neg (by omega), if_neg (by omega), J7 (by omega), Jb]
  ·show Zg v next (v.kac.length : Int) = _
   unfold Zg
   rw [cI, if_neg (by omega)]
 unfold X5
 rw [limits_eq, Jb]
 rw [Jff (F := fun next7 s => Zf v (Jet v.kad) next7 s) v.kaf (fun n => n < (Jet v.kad).1 ∨ (Jet v.kad).2 < n) 2 (Jaf v) (fun next k hk => ?_) (fun next => ?_), e3]
 ·split <;> rfl
 ·show (_ → Zf v _ next (k : Int) = _) ∧ (_ → Zf v _ next (k : Int) = _)
  have := hb.2.1
  unfold Zf
  rw [cI, if_pos (by omega), Qs hk, Jb, cI, cI]
  constructor
  ·intro e
   by_cases h1 : v.kaf[k] < (Jet v.kad).1
   ·rw [if_pos h1]
   ·rw [if_neg h1, if_pos (e.resolve_left h1)]
  ·intro e
   rw [if_neg (fun h => e (.inl h)), if_neg (fun h => e (.inr h)), J7 (by omega), Jb]
 ·show Zf v _ next (v.kaf.length : Int) = _
  unfold Zf
  rw [cI, if_neg (by omega)]
theorem j10_fault (v : Tb) (b : Bool) : Ul v b = open Classical in if b = true ∨ (v.kad ≠ 13 ∧ v.kab ≠ []) then some 1 else X5 v := by
 unfold Ul
 cases b
 ·rw [Jy, cI, cI]
  by_cases h2 : v.kab = []
  ·rw [if_neg (by rw [Jc2]; simpa using h2), if_neg (by simp [h2])]
  ·rw [if_pos ((Jc2 _).2 h2)]
   by_cases h1 : v.kad = 13
   ·rw [if_neg (by simpa using h1), if_neg (by simp [h1])]
   ·rw [if_pos h1, if_pos (.inr ⟨h1, h2⟩)]
 ·rw [Qh, Qh, if_pos (.inl rfl)]
theorem j9_fault (v : Tb) (b : Bool) : Jan v b = open Classical in if b = true ∨ (v.kad ≠ 5 ∧ v.kac ≠ []) ∨ (v.kad ≠ 13 ∧ v.kab ≠ []) then some 1 else X5 v := by
 unfold Jan
 cases b
 ·rw [Jy, cI, j10_fault, j10_fault]
  by_cases h2 : v.kac = []
  ·rw [if_neg (by rw [Jc2]; simpa using h2)]; simp [h2]
  ·rw [if_pos ((Jc2 _).2 h2)]; simp [h2]
 ·rw [Qh, Qh, if_pos (.inl rfl)]
theorem j8_fault (v : Tb) (x4 b : Bool) : Jaj v x4 b = open Classical in if b = true ∨ (x4 = false ∧ v.kaf ≠ []) ∨ (v.kad ≠ 5 ∧ v.kac ≠ []) ∨ (v.kad ≠ 13 ∧ v.kab ≠ []) then some 1 else X5 v := by
 unfold Jaj
 cases b
 ·rw [Jy, cI, j9_fault, j9_fault]
  by_cases h2 : v.kaf = []
  ·rw [if_neg (by rw [Jc2]; simpa using h2)]; simp [h2]
  ·rw [if_pos ((Jc2 _).2 h2)]; cases x4 <;> simp [h2]
 ·rw [Qh, Qh, if_pos (.inl rfl)]
theorem Jg6 {v : Tb} (hb : vB v) (h13 : v.kad ≠ 13) : Jac v = some (Jcp v) := by
 have e : Jac v = X7 v (decide (Wp v.kad)) (decide (Jbo v.kad)) := by
  unfold Jac Wp Jbo
  by_cases h2 : v.kad = 2
  ·simp [h2, Qh, Jy]
  by_cases h1 : v.kad = 1
  ·simp [h1, Qh, Jy]
  by_cases h3 : v.kad = 3
  ·simp [h3, Qh, Jy]
  by_cases h4 : v.kad = 4
  ·simp [h4, Qh, Jy]
  simp [h2, h1, h3, h4, Jy]
 rw [e]
 unfold X7
 rw [wide_eq, Jb, cI, if_neg h13]
 unfold Jcp Yj
 by_cases hk : Jcv v.kad
 ·rw [if_neg (fun e => (Je4 _ h13).1 e hk), cI, j8_fault, j8_fault, j2_fault hb h13, if_neg (show ¬ ¬ Jcv v.kad from fun h => h hk)]
  have hfm : (if v.kae ≠ [] then (open Classical in if (!decide (Wp v.kad)) = true ∨ (decide (Jbo v.kad) = false ∧ v.kaf ≠ []) ∨ (v.kad ≠ 5 ∧ v.kac ≠ []) ∨ (v.kad ≠ 13 ∧ v.kab ≠ []) then True else False) else (open Classical in if false = true ∨ (decide (Jbo v.kad) = false ∧ v.kaf ≠ []) ∨ (v.kad ≠ 5 ∧ v.kac ≠ []) ∨ (v.kad ≠ 13 ∧ v.kab ≠ []) then True else False)) ↔ Jf7 v := by
   unfold Jf7
   by_cases ht : v.kae = [] <;> by_cases hk1 : Wp v.kad <;> by_cases hk2 : Jbo v.kad <;> simp [ht, hk1, hk2]
  by_cases hf : Jf7 v
  ·rw [if_pos hf, if_pos (show (1 : Int) ≠ 0 by omega)]
   by_cases ht : v.kae = []
   ·rw [if_neg (by simpa using ht)]
    rw [if_neg (by simpa using ht)] at hfm
    have := hfm.2 hf
    split at this
    ·rename_i h; rw [if_pos h]
    ·exact this.elim
   ·rw [if_pos ht]
    rw [if_pos ht] at hfm
    have := hfm.2 hf
    split at this
    ·rename_i h; rw [if_pos h]
    ·exact this.elim
  ·rw [if_neg hf, if_neg (show ¬ ((0 : Int) ≠ 0) by omega)]
   by_cases ht : v.kae = []
   ·rw [if_neg (by simpa using ht)]
    rw [if_neg (by simpa using ht)] at hfm
    rw [if_neg (fun h => hf (hfm.1 (by rw [if_pos h]; trivial)))]
   ·rw [if_pos ht]
    rw [if_pos ht] at hfm
    rw [if_neg (fun h => hf (hfm.1 (by rw [if_pos h]; trivial)))]
 ·rw [if_pos ((Je4 _ h13).2 hk), if_pos hk, if_pos (show (10 : Int) ≠ 0 by omega)]
end Go.M

namespace Go.M
open Go.Md Go.Pl
def szD : Nat → List Ta → Nat
 | 0, _ => 0
 | d + 1, l => (l.map fun e => 1 + e.Value.kae.length + e.Value.kaf.length + e.Value.kac.length + szD d e.Value.kab).sum
def szE (d : Nat) (e : Ta) : Nat := 1 + e.Value.kae.length + e.Value.kaf.length + e.Value.kac.length + szD d e.Value.kab
theorem szD_nil (d : Nat) : szD (d + 1) [] = 0 := rfl
theorem Jdk (d : Nat) (e : Ta) (l : List Ta) : szD (d + 1) (e :: l) = szE d e + szD (d + 1) l := by
 simp only [szD, szE, List.map_cons, List.sum_cons]
theorem Jh3 {d : Nat} {e : Ta} : ∀ {l : List Ta}, e ∈ l → szE d e ≤ szD (d + 1) l
 | [], h => by cases h
 | x :: l, h => by
  rw [Jdk]
  rcases List.mem_cons.1 h with h | h
  ·subst h; omega
  ·have := Jh3 (d := d) h; omega
theorem szD_len {d : Nat} : ∀ l : List Ta, l.length ≤ szD (d + 1) l
 | [] => Nat.zero_le _
 | x :: l => by rw [Jdk, List.length_cons]; have := szD_len (d := d) l; unfold szE; omega
theorem vB_of {d : Nat} {e : Ta} {l : List Ta} (h : szD (d + 1) l ≤ 2000000) (he : e ∈ l) : vB e.Value ∧ szD d e.Value.kab ≤ 2000000 := by
 have := Jh3 (d := d) he
 unfold szE at this
 unfold vB
 omega
def prevT (l : List Ta) : Nat → Option Int
 | 0 => none
 | k + 1 => (l[k]?).map (·.Tag)
def lowP (pr : Option Int) (e : Ta) : Prop := ∃ t, pr = some t ∧ e.Tag ≤ t
noncomputable def Jgq (f : Ta → Int) : Option Int → List Ta → Int
 | _, [] => 0
 | pr, e :: l => open Classical in if e.Tag < 0 ∨ 65535 < e.Tag then 2 else if lowP pr e then 5 else if f e ≠ 0 then f e else Jgq f (some e.Tag) l
theorem list_loop {G : (Int → Option Int) → Int → Option Int} (l : List Ta) (f : Ta → Int)
  (more : ∀ (next : Int → Option Int) (k : Nat) (hk : k < l.length), G next (k : Int) = open Classical in if l[k].Tag < 0 ∨ 65535 < l[k].Tag then some 2 else if lowP (prevT l k) l[k] then some 5 else if f l[k] ≠ 0 then some (f l[k]) else next ((k : Int) + 1))
  (stop : ∀ next, G next (l.length : Int) = some 0) : Yz G 0 = some (Jgq f none l) := by
 have key : ∀ m i : Nat, i + m = l.length → Yz G (i : Int) = some (Jgq f (prevT l i) (l.drop i)) := by
  intro m
  induction m with
  | zero =>
   intro i hi
   have : i = l.length := by omega
   subst this
   rw [List.drop_length]
   exact Ql stop
  | succ m ih =>
   intro i hi
   have hlt : i < l.length := by omega
   rw [List.drop_eq_getElem_cons hlt]
   unfold Jgq
   by_cases h1 : l[i].Tag < 0 ∨ 65535 < l[i].Tag
   ·rw [if_pos h1]
    exact Ql fun next => by rw [more next i hlt, if_pos h1]
   rw [if_neg h1]
   by_cases h2 : lowP (prevT l i) l[i]
   ·rw [if_pos h2]
    exact Ql fun next => by rw [more next i hlt, if_neg h1, if_pos h2]
   rw [if_neg h2]
   by_cases h3 : f l[i] ≠ 0
   ·rw [if_pos h3]
    exact Ql fun next => by rw [more next i hlt, if_neg h1, if_neg h2, if_pos h3]
   rw [if_neg h3, X2 ((i : Int) + 1) (fun next => by rw [more next i hlt, if_neg h1, if_neg h2, if_neg h3])]
   have := ih (i + 1) (by omega)
   have e1 : prevT l (i + 1) = some l[i].Tag := by show (l[i]?).map _ = _; rw [List.getElem?_eq_getElem hlt]; rfl
   rw [e1] at this
   exact this
 have := key l.length 0 (by omega)
 rw [List.drop_zero] at this
 exact this
theorem Jfo {f : Ta → Int} : ∀ {l : List Ta} {pr : Option Int}, Jgq f pr l = 0 → ∀ e ∈ l, f e = 0
 | [], _, _, e, he => by cases he
 | x :: l, pr, h, e, he => by
  unfold Jgq at h
  split at h
  ·omega
  split at h
  ·omega
  split at h
  ·rename_i h1; exact absurd h h1
  ·rename_i h1
   rcases List.mem_cons.1 he with h' | h'
   ·subst h'; simpa using h1
   ·exact Jfo h e h'
noncomputable def dE : Nat → List Ta → Int
 | 0, _ => 4
 | d + 1, l => if 200 < l.length then 4 else Jgq (fun e => if e.Value.kad ≠ 13 then Jcp e.Value else if Yj e.Value ≠ 0 then Yj e.Value else dE d e.Value.kab) none l
theorem low_step {α : Type} {l : List Ta} {k : Nat} (hk : k < l.length) (hl : l.length ≤ 1000) (J : Option α) (x : α) :
  J2 (decide (0 < (k : Int))) (Js (gI ((k : Int) - 1)) fun t => Js (Yv l t) fun t35 => J2 (decide (l[k].Tag ≤ t35.Tag)) (some x) J) J = open Classical in if lowP (prevT l k) l[k] then some x else J := by
 rw [cI]
 cases k with
 | zero =>
  rw [if_neg (by omega), if_neg]
  rintro ⟨t, h, _⟩
  cases h
 | succ k =>
  have e : prevT l (k + 1) = some l[k].Tag := by show (l[k]?).map _ = _; rw [List.getElem?_eq_getElem (by omega)]; rfl
  rw [if_pos (by omega), J7 (by omega), Jb, show (((k + 1 : Nat) : Int) - 1) = (k : Int) from by omega, Qs (by omega), Jb, cI, e]
  by_cases h : l[k + 1].Tag ≤ l[k].Tag
  ·rw [if_pos h, if_pos ⟨_, rfl, h⟩]
  ·rw [if_neg h, if_neg]
   rintro ⟨t, ht, h'⟩
   cases ht
   exact h h'
theorem Ji8 (d : Nat) (l : List Ta) (deep : Int) (hd : deep = 6 - (d : Int)) (h5 : d ≤ 5) (hz : szD d l ≤ 2000000) : Jcm l deep = some (dE d l) := by
 unfold Jcm
 refine Jjn (fun d (a : List Ta × Int) => some (dE d a.1)) (fun d a => a.2 = 6 - (d : Int) ∧ d ≤ 5 ∧ szD d a.1 ≤ 2000000) (fun d => d) ?_ d (l, deep) ⟨hd, h5, hz⟩
 rintro next d ⟨l, deep⟩ ⟨hd, h5, hz⟩ ih
 simp only at hd hz
 show Y9 next l deep = some (dE d l)
 unfold Y9
 rw [cI, cI]
 cases d with
 | zero => rw [if_pos (by omega)]; rfl
 | succ d =>
  rw [if_neg (by omega)]
  unfold dE
  by_cases hl : 200 < l.length
  ·rw [if_pos (by omega), if_pos hl]
  rw [if_neg (by omega), if_neg hl]
  refine list_loop l _ (fun nx k hk => ?_) (fun nx => ?_)
  ·obtain ⟨hb, hzn⟩ := vB_of hz (List.getElem_mem hk)
   unfold Jal
   rw [cI, if_pos (by omega), Qs hk, Jb, Jjj, Jb, cI]
   by_cases h1 : l[k].Tag < 0 ∨ 65535 < l[k].Tag
   ·rw [if_pos h1, if_pos h1]
   rw [if_neg h1, if_neg h1, low_step hk (by omega)]
   congr 1
   unfold Jb1
   have e3 : ∀ x : Int, Wx (k : Int) nx x = if x ≠ 0 then some x else nx ((k : Int) + 1) := fun x => by
    unfold Wx; rw [cI, J7 (by omega), Jb]
   rw [cI]
   by_cases h13 : l[k].Value.kad ≠ 13
   ·rw [if_pos h13, Jhc hb, Jb, e3]; simp only [if_pos h13]
   ·rw [if_neg h13, Jep, Jb, cI]
    simp only [if_neg h13]
    by_cases hf : Yj l[k].Value = 0
    ·have := ih d (l[k].Value.kab, deep + 1) ⟨by show deep + 1 = _; omega, by omega, hzn⟩ (by omega)
     rw [if_pos hf, J7 (by omega), Jb, this, Jb, e3, if_neg (show ¬ Yj l[k].Value ≠ 0 from fun h => h hf)]
    ·rw [if_neg hf, e3]; simp [hf]
  ·unfold Jal
   rw [cI, if_neg (by omega)]
theorem fields13 {v : Tb} (h : v.kad = 13) : Yj v = open Classical in if v.kae ≠ [] ∨ v.kaf ≠ [] ∨ v.kac ≠ [] then 1 else 0 := by
 unfold Yj
 rw [if_neg (show ¬ ¬ Jcv v.kad from fun x => x (.inr (.inr (.inr h))))]
 congr 1
 apply propext
 unfold Jf7 Jbo Wp
 rw [h]
 constructor
 ·rintro (⟨_, a⟩ | ⟨_, a⟩ | ⟨_, a⟩ | ⟨a, _⟩)
  ·exact .inr (.inl a)
  ·exact .inl a
  ·exact .inr (.inr a)
  ·exact absurd rfl a
 ·rintro (a | a | a)
  ·exact .inr (.inl ⟨by omega, a⟩)
  ·exact .inl ⟨by omega, a⟩
  ·exact .inr (.inr (.inl ⟨by omega, a⟩))
theorem dirFault_eq (d : Nat) (l : List Ta) (deep : Int) (hd : deep = 6 - (d : Int)) (h5 : d ≤ 5) (hz : szD d l ≤ 2000000) : Jfu l deep = some (dE d l) := by
 unfold Jfu
 refine Jjn (fun d (a : List Ta × Int) => some (dE d a.1)) (fun d a => a.2 = 6 - (d : Int) ∧ d ≤ 5 ∧ szD d a.1 ≤ 2000000) (fun d => d) ?_ d (l, deep) ⟨hd, h5, hz⟩
 rintro next d ⟨l, deep⟩ ⟨hd, h5, hz⟩ ih
 simp only at hd hz
 show Z1 next l deep = some (dE d l)
 unfold Z1
 rw [cI, cI]
 cases d with
 | zero => rw [if_pos (by omega)]; rfl
 | succ d =>
  rw [if_neg (by omega)]
  unfold dE
  by_cases hl : 200 < l.length
  ·rw [if_pos (by omega), if_pos hl]
  rw [if_neg (by omega), if_neg hl]
  refine list_loop l _ (fun nx k hk => ?_) (fun nx => ?_)
  ·obtain ⟨hb, hzn⟩ := vB_of hz (List.getElem_mem hk)
   unfold Jbw
   rw [cI, if_pos (by omega), Qs hk, Jb, cI, cI]
   by_cases h1 : l[k].Tag < 0
   ·rw [if_pos h1, if_pos (.inl h1)]
   by_cases h2 : 65535 < l[k].Tag
   ·rw [if_neg h1, if_pos h2, if_pos (.inr h2)]
   rw [if_neg h1, if_neg h2, if_neg (show ¬ (l[k].Tag < 0 ∨ 65535 < l[k].Tag) by omega), low_step hk (by omega)]
   congr 1
   unfold Jda
   have e3 : ∀ a b c g i j m o, Jbu (k : Int) nx a b c g i j m o = nx ((k : Int) + 1) := fun a b c g i j m o => by
    unfold Jbu; rw [J7 (by omega), Jb]
   simp only [e3]
   rw [cI]
   by_cases h13 : l[k].Value.kad ≠ 13
   ·rw [if_pos h13, Jg6 hb h13, Jb, cI]; simp only [if_pos h13]
   ·have h13' : l[k].Value.kad = 13 := by simpa using h13
    rw [if_neg h13, cI, cI, cI]
    simp only [if_neg h13]
    rw [fields13 h13']
    by_cases a1 : l[k].Value.kae = []
    ·by_cases a2 : l[k].Value.kaf = []
     ·by_cases a3 : l[k].Value.kac = []
      ·have := ih d (l[k].Value.kab, deep + 1) ⟨by show deep + 1 = _; omega, by omega, hzn⟩ (by omega)
       rw [if_neg (show ¬ (l[k].Value.kae ≠ []) by simpa using a1), if_neg (by rw [Jc2]; simpa using a2), if_neg (by rw [Jc2]; simpa using a3), J7 (by omega), Jb, this, Jb, cI]
       simp [a1, a2, a3]
      ·rw [if_neg (show ¬ (l[k].Value.kae ≠ []) by simpa using a1), if_neg (by rw [Jc2]; simpa using a2), if_pos ((Jc2 _).2 a3)]
       simp [a3]
     ·rw [if_neg (show ¬ (l[k].Value.kae ≠ []) by simpa using a1), if_pos ((Jc2 _).2 a2)]
      simp [a2]
    ·rw [if_pos a1]
     simp [a1]
  ·unfold Jbw
   rw [cI, if_neg (by omega)]
def okV (v : Tb) : Prop := Jcv v.kad ∧ ¬ Jf7 v
def okD : Nat → List Ta → Prop
 | 0, _ => False
 | d + 1, l => l.length ≤ 200 ∧ ∀ e ∈ l, okV e.Value ∧ (e.Value.kad = 13 → okD d e.Value.kab)
theorem fields_ok {v : Tb} (h : Yj v = 0) : okV v := by
 unfold Yj at h
 split at h
 ·omega
 split at h
 ·omega
 rename_i h1 h2
 exact ⟨Classical.byContradiction h1, h2⟩
theorem dE_ok : ∀ {d : Nat} {l : List Ta}, dE d l = 0 → okD d l := by
 intro d
 induction d with
 | zero => intro l h; unfold dE at h; omega
 | succ d ih =>
  intro l h
  unfold dE at h
  split at h
  ·omega
  rename_i hl
  refine ⟨by omega, fun e he => ?_⟩
  have := Jfo h e he
  split at this
  ·rename_i h13
   refine ⟨?_, fun h => absurd h h13⟩
   unfold Jcp at this
   split at this
   ·rename_i h1; exact absurd this h1
   ·rename_i h1; exact fields_ok (by simpa using h1)
  ·split at this
   ·rename_i h1; exact absurd this h1
   ·rename_i h1; exact ⟨fields_ok (by simpa using h1), fun _ => ih this⟩
theorem Jgt {α ρ σ : Type} {F : (σ × Int → Option ρ) → σ × Int → Option ρ} (xs : List α) (f : σ → α → σ) (J : σ → Option ρ) (I : Nat → σ → Prop)
  (more : ∀ (next : σ × Int → Option ρ) (k : Nat) (s : σ) (hk : k < xs.length), I k s → F next (s, (k : Int)) = next (f s xs[k], (k : Int) + 1) ∧ I (k + 1) (f s xs[k]))
  (stop : ∀ (next : σ × Int → Option ρ) (s : σ), I xs.length s → F next (s, (xs.length : Int)) = J s) (s : σ) (hs : I 0 s) : Yz F (s, 0) = J (xs.foldl f s) := by
 have key : ∀ n k s, k ≤ xs.length → xs.length - k < n → I k s → Yz F (s, (k : Int)) = J ((xs.drop k).foldl f s) := by
  intro n
  induction n with
  | zero => intro k s _ h; omega
  | succ n ih =>
   intro k s hk h hI
   rcases Nat.lt_or_ge k xs.length with h1 | h1
   ·rw [X2 (f s xs[k], (k : Int) + 1) (fun next => (more next k s h1 hI).1), List.drop_eq_getElem_cons h1, List.foldl_cons]
    exact ih (k + 1) _ (by omega) (by omega) (more (fun _ => none) k s h1 hI).2
   ·have : k = xs.length := by omega
    subst this
    rw [List.drop_length]
    exact Ql fun next => stop next s hI
 have := key (xs.length + 1) 0 s (Nat.zero_le _) (by omega) hs
 simpa using this
theorem Jis {α : Type} (g : α → List UInt8) : ∀ (xs : List α) (a : List UInt8), xs.foldl (fun s x => s ++ g x) a = a ++ xs.flatMap g
 | [], a => by simp
 | x :: xs, a => by rw [List.foldl_cons, Jis g xs]; simp
noncomputable def ratS (big : Bool) (r : Tc) : List UInt8 := Wt big r.Num 4 ++ Wt big r.Den 4
noncomputable def Jdp (big : Bool) (v : Tb) : List UInt8 :=
 if v.kad = 2 then v.kae ++ [0] else if v.kad = 7 then v.kae else if v.kad = 5 then v.kac.flatMap (ratS big) else v.kaf.flatMap fun n => Wt big n (Ja0 v.kad)
def cntS (v : Tb) : Nat := if v.kad = 2 then v.kae.length + 1 else if v.kad = 7 then v.kae.length else if v.kad = 5 then v.kac.length else if v.kad = 13 then 1 else v.kaf.length
theorem Jc3 {α : Type} {g : α → List UInt8} {w : Nat} (h : ∀ x, (g x).length = w) : ∀ xs : List α, (xs.flatMap g).length = xs.length * w
 | [] => by simp
 | x :: xs => by rw [List.flatMap_cons, List.length_append, h, Jc3 h xs, List.length_cons, Nat.add_mul]; omega
theorem Jj0 (big : Bool) (r : Tc) : (ratS big r).length = 8 := by
 unfold ratS; rw [List.length_append, Zp _ _ (by omega), Zp _ _ (by omega)]
theorem Jj8 (big : Bool) {v : Tb} (hv : okV v) (h13 : v.kad ≠ 13) : (Jdp big v).length = cntS v * Ja0 v.kad := by
 unfold Jdp cntS
 by_cases h2 : v.kad = 2
 ·rw [if_pos h2, if_pos h2, List.length_append, h2]; simp [Ja0]
 rw [if_neg h2, if_neg h2]
 by_cases h7 : v.kad = 7
 ·rw [if_pos h7, if_pos h7, h7]; simp [Ja0]
 rw [if_neg h7, if_neg h7]
 by_cases h5 : v.kad = 5
 ·rw [if_pos h5, if_pos h5, h5, Jc3 (Jj0 big)]; rfl
 rw [if_neg h5, if_neg h5, if_neg h13, Jc3 (w := Ja0 v.kad) (fun n => Zp _ _ (Jfg _))]
theorem octS_le (big : Bool) (v : Tb) : (Jdp big v).length ≤ 1 + v.kae.length + 8 * v.kaf.length + 8 * v.kac.length := by
 unfold Jdp
 split
 ·rw [List.length_append, List.length_singleton]; omega
 split
 ·omega
 split
 ·rw [Jc3 (Jj0 big)]; omega
 ·rw [Jc3 (w := Ja0 v.kad) (fun n => Zp _ _ (Jfg _))]
  have := Nat.mul_le_mul_left v.kaf.length (Jfg v.kad)
  omega
theorem count_eq {v : Tb} (hb : vB v) : Jea v = some (cntS v : Int) := by
 unfold Jea cntS
 have := hb.1
 rw [cI, cI, cI, cI]
 by_cases h2 : v.kad = 2
 ·rw [if_pos h2, if_pos h2, J7 (by omega), Jb]; rfl
 by_cases h7 : v.kad = 7
 ·rw [if_neg h2, if_pos h7, if_neg h2, if_pos h7]
 by_cases h5 : v.kad = 5
 ·rw [if_neg h2, if_neg h7, if_pos h5, if_neg h2, if_neg h7, if_pos h5]
 by_cases h13 : v.kad = 13
 ·rw [if_neg h2, if_neg h7, if_neg h5, if_pos h13, if_neg h2, if_neg h7, if_neg h5, if_pos h13]; rfl
 rw [if_neg h2, if_neg h7, if_neg h5, if_neg h13, if_neg h2, if_neg h7, if_neg h5, if_neg h13]
theorem ok_parts {v : Tb} (hv : okV v) : (¬ Jbo v.kad → v.kaf = []) ∧ (¬ Wp v.kad → v.kae = []) ∧ (v.kad ≠ 5 → v.kac = []) := by
 obtain ⟨_, hf⟩ := hv
 unfold Jf7 at hf
 refine ⟨fun h => ?_, fun h => ?_, fun h => ?_⟩
 ·exact Classical.byContradiction fun e => hf (.inl ⟨h, e⟩)
 ·exact Classical.byContradiction fun e => hf (.inr (.inl ⟨h, e⟩))
 ·exact Classical.byContradiction fun e => hf (.inr (.inr (.inl ⟨h, e⟩)))
theorem Jjc {big : Bool} {v : Tb} (hb : vB v) (hv : okV v) (h13 : v.kad ≠ 13) : Zz big v = some (Jdp big v) := by
 have hb' := hb
 obtain ⟨b1, b2, b3⟩ := hb'
 obtain ⟨p1, p2, p3⟩ := ok_parts hv
 have j2 : ∀ a : List UInt8, a.length ≤ 32000000 → Jdb big v a = some (a ++ v.kac.flatMap (ratS big)) := fun a ha => by
  unfold Jdb
  rw [← Jis]
  refine Jgt (F := fun next3 s => U1 big v next3 s.1 s.2) v.kac (fun s r => s ++ ratS big r) some (fun k s => s.length ≤ a.length + 8 * k) (fun next k s hk hs => ?_) (fun next s hs => ?_) _ (by omega)
  ·refine ⟨?_, by show (s ++ _).length ≤ _; rw [List.length_append, Jj0]; omega⟩
   show U1 big v next s (k : Int) = _
   unfold U1
   have l1 : (Wt big v.kac[k].Num 4).length = 4 := Zp _ _ (by omega)
   have l2 : (Wt big v.kac[k].Den 4).length = 4 := Zp _ _ (by omega)
   rw [cI, if_pos (by omega), Qs hk, Jb, R4, Jb, R4, Jb, Xb (by omega), Jb, Xb (by rw [List.length_append]; omega), Jb, J7 (by omega), Jb]
   rfl
  ·show U1 big v next s (v.kac.length : Int) = _
   unfold U1
   rw [cI, if_neg (by omega)]
 have j1 : ∀ a : List UInt8, a.length ≤ 4000000 → Jdf big v a = some (a ++ (v.kaf.flatMap fun n => Wt big n (Ja0 v.kad)) ++ v.kac.flatMap (ratS big)) := fun a ha => by
  unfold Jdf
  have hloop := Jgt (F := fun next4 s => Uz big v next4 s.1 s.2) v.kaf (fun s n => s ++ Wt big n (Ja0 v.kad)) (Jdb big v) (fun k s => s.length ≤ a.length + 8 * k) (fun next k s hk hs => by
   have hw := Jfg v.kad
   have l1 : (Wt big v.kaf[k] (Ja0 v.kad)).length = Ja0 v.kad := Zp _ _ hw
   refine ⟨?_, by show (s ++ _).length ≤ _; rw [List.length_append, l1]; omega⟩
   show Uz big v next s (k : Int) = _
   unfold Uz
   rw [cI, if_pos (by omega), Qs hk, Jb, wide_eq, Jb, if_neg h13, num_R _ _ hw, Jb, Xb (by omega), Jb, J7 (by omega), Jb]) (fun next s hs => by
   show Uz big v next s (v.kaf.length : Int) = _
   unfold Uz
   rw [cI, if_neg (by omega)]) a (by omega)
  rw [hloop, Jis, j2]
  rw [List.length_append, Jc3 (w := Ja0 v.kad) (fun n => Zp _ _ (Jfg _))]
  have := Nat.mul_le_mul_left v.kaf.length (Jfg v.kad)
  omega
 unfold Zz Jdp
 rw [cI]
 by_cases h2 : v.kad = 2
 ·rw [if_pos h2, if_pos h2, Xb (by rw [List.length_singleton]; omega), Jb, j1 _ (by rw [List.length_append, List.length_singleton]; omega), p1 (by rw [h2]; unfold Jbo; omega), p3 (by omega)]
  simp
 rw [if_neg h2, if_neg h2, j1 _ (by omega)]
 by_cases h7 : v.kad = 7
 ·rw [if_pos h7, p1 (by rw [h7]; unfold Jbo; omega), p3 (by omega)]
  simp
 rw [if_neg h7, p2 (by unfold Wp; omega), List.nil_append]
 by_cases h5 : v.kad = 5
 ·rw [if_pos h5, p1 (by rw [h5]; unfold Jbo; omega)]; rfl
 ·rw [if_neg h5, p3 h5, List.flatMap_nil, List.append_nil]
theorem R_count_eq {v : Tb} (hb : vB v) (hv : okV v) : Jjh v = some (cntS v : Int) := by
 unfold Jjh
 rw [cI]
 by_cases h13 : v.kad = 13
 ·rw [if_pos h13]; unfold cntS; rw [h13]; rfl
 ·rw [if_neg h13, Jjc hb hv h13, Jb, wide_eq, Jb, if_neg h13, Jj8 false hv h13]
  have hw : Ja0 v.kad ≠ 0 := fun e => (Je4 _ h13).1 (by rw [e]; rfl) hv.1
  have hle := octS_le false v
  rw [Jj8 false hv h13] at hle
  have hb1 := hb.1; have hb2 := hb.2.1; have hb3 := hb.2.2
  have e : (((cntS v * Ja0 v.kad : Nat) : Int)).tdiv (Ja0 v.kad : Int) = (cntS v : Int) := by
   rw [Int.natCast_mul, Int.mul_tdiv_cancel _ (by omega)]
  have hc : cntS v ≤ cntS v * Ja0 v.kad := Nat.le_mul_of_pos_right _ (by omega)
  unfold gQuo
  rw [if_neg (by omega), e, J7 (by omega), Jb]
end Go.M

namespace Go.M
open Go.Md Go.Pl
def U4 (n : Nat) : List UInt8 := List.replicate n 0
def ev (p : Nat) : Nat := p + p % 2
def pad (p : Nat) : List UInt8 := U4 (p % 2)
def put (s : List UInt8) (at_ : Nat) (b : List UInt8) : List UInt8 := s.take at_ ++ b ++ s.drop (at_ + b.length)
theorem Y5 (n : Nat) : (U4 n).length = n := List.length_replicate
theorem Jg0 (p : Nat) : (pad p).length = p % 2 := Y5 _
theorem Jfk (a b : Nat) : U4 (a + b) = U4 a ++ U4 b := List.replicate_append_replicate.symm
theorem put_len {s : List UInt8} {a : Nat} {b : List UInt8} (h : a + b.length ≤ s.length) : (put s a b).length = s.length := by
 unfold put
 simp only [List.length_append, List.length_take, List.length_drop]; omega
theorem Jhm (A B C b : List UInt8) (h : b.length = B.length) {a : Nat} (ha : a = A.length) : put (A ++ B ++ C) a b = A ++ b ++ C := by
 subst ha
 unfold put
 rw [h, List.append_assoc A B C, List.take_left' rfl, ← List.append_assoc A B C, List.drop_left' (by rw [List.length_append])]
theorem Jes {big : Bool} {s : List UInt8} {a n : Int} {p k : Nat} {k' : Int} (ha : a = (p : Int)) (hk' : k' = (k : Int)) (hk : k ≤ 8) (h : p + k ≤ s.length) (hs : s.length ≤ 4611686018427387904) : Yb ⟨s, big⟩ a n k' = some ⟨put s p (Wt big n k), big⟩ := by
 subst ha hk'
 unfold Yb
 dsimp only
 have hl := Zp big n hk
 rw [Jbm (by omega), Jb, num_R _ _ hk, Jb, Xb (by rw [List.length_take]; omega), Jb, J7 (by omega), Jb, V6 (by omega), Jb, Xb (by rw [List.length_append, List.length_take, List.length_drop]; omega), Jb]
 unfold put
 rw [hl, Int.toNat_natCast, show ((p : Int) + (k : Int)).toNat = p + k from by omega]
theorem R_add_eq {big : Bool} {s a : List UInt8} (hs : s.length + a.length ≤ 4611686018427387904) : Jbt ⟨s, big⟩ a = some (((ev s.length : Nat) : Int), ⟨s ++ pad s.length ++ a, big⟩) := by
 unfold Jbt Jbi ev pad
 dsimp only
 rw [gRem_ok (by omega), Jb, cI]
 have e : ((s.length : Int)).tmod 2 = ((s.length % 2 : Nat) : Int) := by rw [Int.tmod_eq_emod_of_nonneg (by omega)]; omega
 by_cases h : s.length % 2 = 0
 ·rw [e, if_neg (by omega), h, Xb (by omega), Jb]
  simp [U4]
 ·have h1 : s.length % 2 = 1 := by omega
  rw [e, if_pos (by omega), Xb (by rw [List.length_singleton]; omega), Jb, h1, Xb (by rw [List.length_append, List.length_singleton]; omega), Jb]
  simp [U4]
noncomputable def Jci (big : Bool) (e : Ta) : List UInt8 := Wt big e.Tag 2 ++ Wt big e.Value.kad 2 ++ Wt big (cntS e.Value) 4
theorem Jgv (big : Bool) (e : Ta) : (Jci big e).length = 8 := by
 unfold Jci; rw [List.length_append, List.length_append, Zp _ _ (by omega), Zp _ _ (by omega), Zp _ _ (by omega)]
noncomputable def entF (G : List Ta → Nat → List UInt8) (big : Bool) (e : Ta) (q : Nat) : List UInt8 × List UInt8 :=
 if e.Value.kad = 13 then (Wt big (ev q) 4, G e.Value.kab q)
 else if (Jdp big e.Value).length ≤ 4 then (Jdp big e.Value ++ U4 (4 - (Jdp big e.Value).length), [])
 else (Wt big (ev q) 4, pad q ++ Jdp big e.Value)
theorem entF_len (G : List Ta → Nat → List UInt8) (big : Bool) (e : Ta) (q : Nat) : (entF G big e q).1.length = 4 := by
 unfold entF
 split
 ·exact Zp _ _ (by omega)
 split
 ·rw [List.length_append, Y5]; omega
 ·exact Zp _ _ (by omega)
noncomputable def bods (G : List Ta → Nat → List UInt8) (big : Bool) : List Ta → Nat → List UInt8 × List UInt8
 | [], _ => ([], [])
 | e :: l, q => (Jci big e ++ (entF G big e q).1 ++ (bods G big l (q + (entF G big e q).2.length)).1, (entF G big e q).2 ++ (bods G big l (q + (entF G big e q).2.length)).2)
theorem bods_len (G : List Ta → Nat → List UInt8) (big : Bool) : ∀ (l : List Ta) (q : Nat), (bods G big l q).1.length = 12 * l.length
 | [], _ => rfl
 | e :: l, q => by
  unfold bods
  rw [List.length_append, List.length_append, Jgv, entF_len, bods_len G big l, List.length_cons]; omega
noncomputable def dirB (G : List Ta → Nat → List UInt8) (big : Bool) (l : List Ta) (p : Nat) : List UInt8 :=
 pad p ++ Wt big l.length 2 ++ (bods G big l (ev p + 2 + 12 * l.length + 4)).1 ++ U4 4 ++ (bods G big l (ev p + 2 + 12 * l.length + 4)).2
noncomputable def U7 : Nat → Bool → List Ta → Nat → List UInt8
 | 0, _ => fun _ _ => []
 | d + 1, big => dirB (U7 d big) big
theorem Jih (G : List Ta → Nat → List UInt8) (big : Bool) (l : List Ta) (p : Nat) : p + (dirB G big l p).length = ev p + 2 + 12 * l.length + 4 + (bods G big l (ev p + 2 + 12 * l.length + 4)).2.length := by
 unfold dirB ev
 simp only [List.length_append, Jg0, Zp _ _ (show 2 ≤ 8 by omega), bods_len, Y5]; omega
theorem dirS_le (big : Bool) : ∀ (d : Nat) (l : List Ta) (p : Nat), (U7 d big l p).length ≤ 8 + 32 * szD d l := by
 intro d
 induction d with
 | zero => intro l p; exact Nat.zero_le _
 | succ d ih =>
  intro l p
  have hb : ∀ (l : List Ta) (q : Nat), (bods (U7 d big) big l q).2.length + 12 * l.length ≤ 32 * szD (d + 1) l := by
   intro l
   induction l with
   | nil => intro q; exact Nat.zero_le _
   | cons e l ih2 =>
    intro q
    unfold bods
    rw [List.length_append, List.length_cons, Jdk]
    have h1 := ih2 (q + (entF (U7 d big) big e q).2.length)
    have h2 : (entF (U7 d big) big e q).2.length + 12 ≤ 32 * szE d e := by
     unfold entF szE
     split
     ·have := ih e.Value.kab q; simp only; omega
     split
     ·simp only [List.length_nil]; omega
     ·have := octS_le big e.Value
      simp only [List.length_append, Jg0]; omega
    omega
  have h1 := Jih (U7 d big) big l p
  have h2 := hb l (ev p + 2 + 12 * l.length + 4)
  show (dirB (U7 d big) big l p).length ≤ _
  have h3 : ev p ≤ p + 1 := by unfold ev; omega
  omega
end Go.M

namespace Go.M
open Go.Md Go.Pl
theorem zer_mul (n : Nat) : U4 (12 * (n + 1)) = U4 2 ++ U4 2 ++ U4 4 ++ U4 4 ++ U4 (12 * n) := by
 rw [← Jfk, ← Jfk, ← Jfk, ← Jfk]; congr 1; omega
theorem spec_loop {big : Bool} {l : List Ta} (hl : l.length ≤ 200) (hv : ∀ e ∈ l, okV e.Value ∧ vB e.Value) {G : List Ta → Nat → List UInt8} {self : Te × List Ta → Option (Int × Te)}
  (hself : ∀ e ∈ l, e.Value.kad = 13 → ∀ s : List UInt8, s.length + (G e.Value.kab s.length).length ≤ 1099511627776 → self (⟨s, big⟩, e.Value.kab) = some (((ev s.length : Nat) : Int), ⟨s ++ G e.Value.kab s.length, big⟩))
  {t17 : Int × Te} {at_ : Nat} (ht : t17.1 = (at_ : Int)) :
  ∀ (l2 : List Ta) (i : Nat) (X Y : List UInt8), i + l2.length = l.length → l.drop i = l2 → X.length = at_ + 2 + 12 * i → X.length + 12 * l2.length + 4 + Y.length + (bods G big l2 (X.length + 12 * l2.length + 4 + Y.length)).2.length ≤ 1099511627776 →
   Yz (fun next1 a => Zm l self t17 next1 a.1 a.2.1 a.2.2) ((i : Int), X ++ U4 (12 * l2.length) ++ U4 4 ++ Y, big) = some (t17.1, ⟨X ++ (bods G big l2 (X.length + 12 * l2.length + 4 + Y.length)).1 ++ U4 4 ++ Y ++ (bods G big l2 (X.length + 12 * l2.length + 4 + Y.length)).2, big⟩) := by
 intro l2
 induction l2 with
 | nil =>
  intro i X Y hi _ hX hM
  refine Ql fun next => ?_
  show Zm l self t17 next (i : Int) _ big = _
  unfold Zm
  rw [cI, if_neg (by rw [List.length_nil] at hi; omega)]
  unfold bods
  simp [U4]
 | cons e l2 ih =>
  intro i X Y hi hd hX hM
  have hlt : i < l.length := by rw [List.length_cons] at hi; omega
  have he : l[i] = e := by have := List.drop_eq_getElem_cons hlt; rw [hd] at this; injection this with h1 h2; exact h1.symm
  have hd' : l.drop (i + 1) = l2 := by have := List.drop_eq_getElem_cons hlt; rw [hd] at this; injection this with h1 h2; exact h2.symm
  have hmem : e ∈ l := he ▸ List.getElem_mem hlt
  obtain ⟨hok, hvb⟩ := hv e hmem
  generalize hp : X.length + 12 * (e :: l2).length + 4 + Y.length = p at hM ⊢
  rw [List.length_cons] at hp hi ⊢
  unfold bods at hM ⊢
  simp only at hM ⊢
  generalize hF : entF G big e p = F at hM ⊢
  obtain ⟨f, b⟩ := F
  have hf4 : f.length = 4 := by have := entF_len G big e p; rw [hF] at this; exact this
  simp only at hM ⊢
  rw [List.length_append] at hM
  have n2 : ∀ n, (Wt big n 2).length = 2 := fun n => Zp _ _ (by omega)
  have n4 : ∀ n, (Wt big n 4).length = 4 := fun n => Zp _ _ (by omega)
  generalize hR : U4 (12 * l2.length) ++ U4 4 ++ Y = R
  have hRl : R.length = 12 * l2.length + 4 + Y.length := by rw [← hR]; simp only [List.length_append, Y5]
  have s0 : X ++ U4 (12 * (l2.length + 1)) ++ U4 4 ++ Y = X ++ U4 2 ++ (U4 2 ++ U4 4 ++ U4 4 ++ R) := by
   rw [zer_mul, ← hR]; simp only [List.append_assoc]
  have e1 : put (X ++ U4 2 ++ (U4 2 ++ U4 4 ++ U4 4 ++ R)) X.length (Wt big e.Tag 2) = (X ++ Wt big e.Tag 2) ++ U4 2 ++ (U4 4 ++ U4 4 ++ R) := by
   rw [Jhm _ _ _ _ (by rw [n2, Y5]) rfl]; simp only [List.append_assoc]
  have e2 : put ((X ++ Wt big e.Tag 2) ++ U4 2 ++ (U4 4 ++ U4 4 ++ R)) (X.length + 2) (Wt big e.Value.kad 2) = (X ++ Wt big e.Tag 2 ++ Wt big e.Value.kad 2) ++ U4 4 ++ (U4 4 ++ R) := by
   rw [Jhm _ _ _ _ (by rw [n2, Y5]) (by rw [List.length_append, n2])]; simp only [List.append_assoc]
  have e3 : put ((X ++ Wt big e.Tag 2 ++ Wt big e.Value.kad 2) ++ U4 4 ++ (U4 4 ++ R)) (X.length + 4) (Wt big (cntS e.Value) 4) = (X ++ Jci big e) ++ U4 4 ++ R := by
   rw [Jhm _ _ _ _ (by rw [n4, Y5]) (by rw [List.length_append, List.length_append, n2, n2])]
   unfold Jci; simp only [List.append_assoc]
  have hS : ((X ++ Jci big e) ++ U4 4 ++ R).length = p := by
   simp only [List.length_append, Jgv, Y5, hRl]; omega
  have hpos : (at_ : Int) + 2 + 12 * (i : Int) + 8 = ((X ++ Jci big e).length : Int) := by
   rw [List.length_append, Jgv]; omega
  have hround : ∀ next : Int × List UInt8 × Bool → Option (Int × Te), Zm l self t17 next (i : Int) (X ++ U4 (12 * (l2.length + 1)) ++ U4 4 ++ Y) big = next (((i + 1 : Nat) : Int), (X ++ Jci big e ++ f) ++ U4 (12 * l2.length) ++ U4 4 ++ (Y ++ b), big) := fun next => by
   unfold Zm
   have e5 : ∀ m a, V4 (i : Int) next m a = next (((i + 1 : Nat) : Int), m, a) := fun m a => by
    unfold V4; rw [J7 (by omega), Jb]; rfl
   rw [cI, if_pos (by omega), Qs hlt, Jb, he, ht, J7 (by omega), Jb, J7 (by omega), Jb, J7 (by omega), Jb, s0]
   rw [Jes (p := X.length) (k := 2) (k' := 2) (by omega) rfl (by omega) (by simp only [List.length_append, Y5]; omega) (by simp only [List.length_append, Y5, hRl]; omega), Jb, e1, J7 (by omega), Jb]
   rw [Jes (p := X.length + 2) (k := 2) (k' := 2) (by omega) rfl (by omega) (by simp only [List.length_append, Y5, n2]; omega) (by simp only [List.length_append, Y5, hRl, n2]; omega), Jb, e2, J7 (by omega), Jb, R_count_eq hvb hok, Jb]
   rw [Jes (p := X.length + 4) (k := 4) (k' := 4) (by omega) rfl (by omega) (by simp only [List.length_append, Y5, n2]; omega) (by simp only [List.length_append, Y5, hRl, n2]; omega), Jb, e3, cI]
   unfold entF at hF
   by_cases h13 : e.Value.kad = 13
   ·rw [if_pos h13] at hF ⊢
    obtain ⟨hF1, hF2⟩ := Prod.mk.inj hF
    rw [J7 (by omega), Jb, hself e hmem h13 ((X ++ Jci big e) ++ U4 4 ++ R) (by rw [hS, hF2]; omega), Jb]
    show Js (Yb ⟨(X ++ Jci big e) ++ U4 4 ++ R ++ G e.Value.kab ((X ++ Jci big e) ++ U4 4 ++ R).length, big⟩ _ _ 4) _ = _
    rw [hS, hF2, Jes (p := (X ++ Jci big e).length) (k := 4) (k' := 4) (by omega) rfl (by omega) (by simp only [List.length_append, Y5]; omega) (by rw [List.length_append, hS]; omega), Jb, e5, hF1]
    have : (X ++ Jci big e) ++ U4 4 ++ R ++ b = (X ++ Jci big e) ++ U4 4 ++ (R ++ b) := by simp only [List.append_assoc]
    rw [this, Jhm _ _ _ _ (by rw [hf4, Y5]) rfl, ← hR]
    simp only [List.append_assoc]
   ·rw [if_neg h13] at hF ⊢
    dsimp only
    rw [Jjc hvb hok h13, Jb, cI]
    by_cases ho : (Jdp big e.Value).length ≤ 4
    ·rw [if_pos ho] at hF
     obtain ⟨hF1, hF2⟩ := Prod.mk.inj hF
     have hpn : ((at_ : Int) + 2 + 12 * (i : Int) + 8).toNat = (X ++ Jci big e).length := by omega
     have hp2 : ((at_ : Int) + 2 + 12 * (i : Int) + 8 + ((Jdp big e.Value).length : Int)).toNat = (X ++ Jci big e).length + (Jdp big e.Value).length := by omega
     have hXl : (X ++ Jci big e).length = X.length + 8 := by rw [List.length_append, Jgv]
     rw [if_neg (by omega), J7 (by omega), Jb, Jbm (by rw [hS]; omega), Jb, hpn]
     rw [Xb (by rw [List.length_take]; omega), Jb, Jb, J7 (by omega), Jb, V6 (by rw [hS]; omega), Jb, hp2]
     rw [Xb (by simp only [List.length_append, List.length_take, List.length_drop, hS]; omega), Jb, e5]
     have hput : List.take (X ++ Jci big e).length ((X ++ Jci big e) ++ U4 4 ++ R) ++ Jdp big e.Value ++ List.drop ((X ++ Jci big e).length + (Jdp big e.Value).length) ((X ++ Jci big e) ++ U4 4 ++ R) = put ((X ++ Jci big e) ++ U4 4 ++ R) (X ++ Jci big e).length (Jdp big e.Value) := rfl
     have hz : U4 4 = U4 (Jdp big e.Value).length ++ U4 (4 - (Jdp big e.Value).length) := by rw [← Jfk]; congr 1; omega
     have h1 : (X ++ Jci big e) ++ U4 4 ++ R = (X ++ Jci big e) ++ U4 (Jdp big e.Value).length ++ (U4 (4 - (Jdp big e.Value).length) ++ R) := by
      rw [hz]
      simp only [List.append_assoc]
     rw [hput, h1, Jhm _ _ _ _ (by rw [Y5]) rfl, ← hF1, ← hF2, ← hR]
     simp only [List.append_assoc, List.append_nil]
    ·rw [if_neg ho] at hF
     obtain ⟨hF1, hF2⟩ := Prod.mk.inj hF
     have hbl : b.length = p % 2 + (Jdp big e.Value).length := by rw [← hF2, List.length_append, Jg0]
     rw [if_pos (by omega), J7 (by omega), Jb, R_add_eq (by rw [hS]; omega), Jb]
     dsimp only
     rw [hS, Jes (p := (X ++ Jci big e).length) (k := 4) (k' := 4) (by omega) rfl (by omega) (by simp only [List.length_append, Y5]; omega) (by simp only [List.length_append, Jg0]; rw [← List.length_append, ← List.length_append, ← List.length_append, hS]; omega), Jb, e5]
     have : (X ++ Jci big e) ++ U4 4 ++ R ++ pad p ++ Jdp big e.Value = (X ++ Jci big e) ++ U4 4 ++ (R ++ pad p ++ Jdp big e.Value) := by simp only [List.append_assoc]
     rw [this, Jhm _ _ _ _ (by rw [n4, Y5]) rfl, ← hF1, ← hF2, ← hR]
     simp only [List.append_assoc]
  rw [X2 _ hround]
  have hq : (X ++ Jci big e ++ f).length + 12 * l2.length + 4 + (Y ++ b).length = p + b.length := by
   simp only [List.length_append, Jgv, hf4]; omega
  have := ih (i + 1) (X ++ Jci big e ++ f) (Y ++ b) (by omega) hd' (by simp only [List.length_append, Jgv, hf4]; omega) (by rw [hq]; omega)
  rw [this, hq]
  simp only [List.append_assoc]
end Go.M

namespace Go.M
open Go.Md Go.Pl
noncomputable section
theorem rep_zero (n : Nat) : (List.replicate n ([0] : List UInt8)).flatten = U4 n := by
 unfold U4
 induction n with
 | zero => rfl
 | succ n ih => rw [List.replicate_succ, List.flatten_cons, ih, List.replicate_succ]; rfl
theorem R_dir_eq (d : Nat) (big : Bool) (s : List UInt8) (l : List Ta) (hok : okD d l) (hz : szD d l ≤ 2000000) (hM : s.length + (U7 d big l s.length).length ≤ 1099511627776) :
  Jc9 ⟨s, big⟩ l = some (((ev s.length : Nat) : Int), ⟨s ++ U7 d big l s.length, big⟩) := by
 unfold Jc9
 have := Jjn (F := fun (self : (Te × List Ta) → Option (Int × Te)) (s : Te × List Ta) => Yq self s.1 s.2)
  (fun (g : Nat × Bool × List UInt8) (a : Te × List Ta) => some (((ev g.2.2.length : Nat) : Int), ⟨g.2.2 ++ U7 g.1 g.2.1 a.2 g.2.2.length, g.2.1⟩))
  (fun g a => a.1 = ⟨g.2.2, g.2.1⟩ ∧ okD g.1 a.2 ∧ szD g.1 a.2 ≤ 2000000 ∧ g.2.2.length + (U7 g.1 g.2.1 a.2 g.2.2.length).length ≤ 1099511627776) (fun g => g.1) ?_ (d, big, s) (⟨s, big⟩, l) ⟨rfl, hok, hz, hM⟩
 ·exact this
 rintro next ⟨d, big, s⟩ ⟨w, l⟩ ⟨hw, hok, hz, hM⟩ ih
 simp only at hw hok hz hM ih ⊢
 subst hw
 cases d with
 | zero => exact hok.elim
 | succ d =>
  obtain ⟨hl, hall⟩ := hok
  have hM' := Jih (U7 d big) big l s.length
  have hMM : s.length + (dirB (U7 d big) big l s.length).length ≤ 1099511627776 := hM
  have hev : ev s.length = (s ++ pad s.length).length := by rw [List.length_append, Jg0]; rfl
  unfold Yq
  have ht : (2 + 12 * (l.length : Int) + 4).toNat = 2 + 12 * l.length + 4 := by omega
  rw [J7 (by omega), Jb, J7 (by omega), Jb, J7 (by omega), Jb]
  have hrep : gRep [0] (2 + 12 * (l.length : Int) + 4) = some (U4 (2 + 12 * l.length + 4)) := by
   unfold gRep
   rw [if_pos (by rw [List.length_singleton]; omega), ht, rep_zero]
  rw [hrep, Jb, R_add_eq (by rw [Y5]; omega), Jb]
  have hsp : s ++ pad s.length ++ U4 (2 + 12 * l.length + 4) = (s ++ pad s.length) ++ U4 2 ++ (U4 (12 * l.length) ++ U4 4) := by
   rw [Jfk, Jfk]; simp only [List.append_assoc]
  show Js (Yb ⟨s ++ pad s.length ++ U4 (2 + 12 * l.length + 4), big⟩ _ _ 2) _ = _
  rw [Jes (p := ev s.length) (k := 2) (k' := 2) rfl rfl (by omega) (by rw [List.length_append, ← hev, Y5]; omega) (by rw [List.length_append, ← hev, Y5]; omega), Jb, hsp, Jhm _ _ _ _ (by rw [Zp _ _ (by omega), Y5]) hev]
  have hX : (s ++ pad s.length ++ Wt big l.length 2).length = ev s.length + 2 := by rw [List.length_append, ← hev, Zp _ _ (by omega)]
  have := spec_loop (big := big) hl (fun e he => ⟨(hall e he).1, (vB_of hz he).1⟩) (G := U7 d big) (self := next) (fun e he h13 s' hs' => ih (d, big, s') (⟨s', big⟩, e.Value.kab) ⟨rfl, (hall e he).2 h13, (vB_of hz he).2, hs'⟩ (by simp))
   (t17 := (((ev s.length : Nat) : Int), ⟨s ++ pad s.length ++ U4 (2 + 12 * l.length + 4), big⟩)) (at_ := ev s.length) rfl l 0 (s ++ pad s.length ++ Wt big l.length 2) [] (by omega) rfl (by rw [hX]) (by rw [hX, List.length_nil, Nat.add_zero]; omega)
  rw [List.append_nil] at this
  have hst : s ++ pad s.length ++ Wt big l.length 2 ++ (U4 (12 * l.length) ++ U4 4) = s ++ pad s.length ++ Wt big l.length 2 ++ U4 (12 * l.length) ++ U4 4 := by simp only [List.append_assoc]
  rw [hst, ← hsp]
  refine this.trans ?_
  rw [hX, List.length_nil, Nat.add_zero, List.append_nil]
  show some _ = some (_, (⟨s ++ dirB (U7 d big) big l s.length, big⟩ : Te))
  unfold dirB
  simp only [List.append_assoc]
theorem even_eq (p : Nat) (hp : p ≤ 4611686018427387904) : Jer (p : Int) = some ((ev p : Nat) : Int) := by
 unfold Jer ev
 have e : ((p : Int)).tmod 2 = ((p % 2 : Nat) : Int) := by rw [Int.tmod_eq_emod_of_nonneg (by omega)]; omega
 rw [gRem_ok (by omega), Jb, e, J7 (by omega), Jb]; rfl
theorem octetsOf_eq {v : Tb} (hb : vB v) (hok : okV v) (h13 : v.kad ≠ 13) (big : Bool) : U8 v = some ((Jdp big v).length : Int) := by
 unfold U8
 have h1 := octS_le big v
 have h2 := Jj8 big hok h13
 obtain ⟨b1, b2, b3⟩ := hb
 rw [count_eq ⟨b1, b2, b3⟩, Jb, sizeOf_eq, Jb, if_neg h13, ← Int.natCast_mul, ← h2, J7 (by omega), Jb]
theorem dirEnd_eq (big : Bool) (d : Nat) (l : List Ta) (p : Nat) (hok : okD d l) (hz : szD d l ≤ 2000000) (hM : p + (U7 d big l p).length ≤ 1099511627776) :
  Jfn l (p : Int) = some (((p + (U7 d big l p).length : Nat)) : Int) := by
 unfold Jfn
 have := Jjn (F := fun (self : (List Ta × Int) → Option Int) (s : List Ta × Int) => Z4 self s.1 s.2)
  (fun (g : Nat × Nat) (a : List Ta × Int) => some (((g.2 + (U7 g.1 big a.1 g.2).length : Nat)) : Int))
  (fun g a => a.2 = (g.2 : Int) ∧ okD g.1 a.1 ∧ szD g.1 a.1 ≤ 2000000 ∧ g.2 + (U7 g.1 big a.1 g.2).length ≤ 1099511627776) (fun g => g.1) ?_ (d, p) (l, (p : Int)) ⟨rfl, hok, hz, hM⟩
 ·exact this
 rintro next ⟨d, p⟩ ⟨l, a⟩ ⟨hw, hok, hz, hM⟩ ih
 simp only at hw hok hz hM ih ⊢
 subst hw
 cases d with
 | zero => exact hok.elim
 | succ d =>
  obtain ⟨hl, hall⟩ := hok
  have hM' := Jih (U7 d big) big l p
  have hMM : p + (dirB (U7 d big) big l p).length ≤ 1099511627776 := hM
  unfold Z4
  rw [even_eq p (by omega), Jb, J7 (by omega), Jb, J7 (by omega), Jb, J7 (by omega), Jb, J7 (by omega), Jb]
  have key : ∀ (l2 : List Ta) (i q : Nat), i + l2.length = l.length → l.drop i = l2 → q + (bods (U7 d big) big l2 q).2.length ≤ 1099511627776 → Yz (fun next1 s => Vz l next next1 s.1 s.2) ((q : Int), (i : Int)) = some (((q + (bods (U7 d big) big l2 q).2.length : Nat)) : Int) := by
   intro l2
   induction l2 with
   | nil =>
    intro i q hi _ _
    refine Ql fun nx => ?_
    show Vz l next nx (q : Int) (i : Int) = _
    unfold Vz
    rw [cI, if_neg (by rw [List.length_nil] at hi; omega)]
    rfl
   | cons e l2 ih2 =>
    intro i q hi hd hq
    have hlt : i < l.length := by rw [List.length_cons] at hi; omega
    have he : l[i] = e := by have := List.drop_eq_getElem_cons hlt; rw [hd] at this; injection this with h1 h2; exact h1.symm
    have hd' : l.drop (i + 1) = l2 := by have := List.drop_eq_getElem_cons hlt; rw [hd] at this; injection this with h1 h2; exact h2.symm
    have hmem : e ∈ l := he ▸ List.getElem_mem hlt
    have hvb := (vB_of hz hmem).1
    have hok := (hall e hmem).1
    rw [List.length_cons] at hi
    unfold bods at hq ⊢
    simp only at hq ⊢
    generalize hF : entF (U7 d big) big e q = F at hq ⊢
    obtain ⟨f, b⟩ := F
    simp only at hq ⊢
    rw [List.length_append] at hq ⊢
    have hround : ∀ nx : Int × Int → Option Int, Vz l next nx (q : Int) (i : Int) = nx (((q + b.length : Nat) : Int), ((i + 1 : Nat) : Int)) := fun nx => by
     unfold Vz
     have e2 : ∀ x, Jao (i : Int) nx x = nx (x, ((i + 1 : Nat) : Int)) := fun x => by
      unfold Jao; rw [J7 (by omega), Jb]; rfl
     rw [cI, if_pos (by omega), Qs hlt, Jb, he, cI]
     unfold entF at hF
     by_cases h13 : e.Value.kad = 13
     ·rw [if_pos h13] at hF ⊢
      obtain ⟨_, hF2⟩ := Prod.mk.inj hF
      have := ih (d, q) (e.Value.kab, (q : Int)) ⟨rfl, (hall e hmem).2 h13, (vB_of hz hmem).2, by show q + (U7 d big e.Value.kab q).length ≤ _; rw [hF2]; omega⟩ (by simp)
      rw [this, Jb, e2]
      show nx (((q + (U7 d big e.Value.kab q).length : Nat) : Int), _) = _
      rw [hF2]
     ·rw [if_neg h13] at hF ⊢
      rw [octetsOf_eq hvb hok h13 big, Jb, cI, e2]
      by_cases ho : (Jdp big e.Value).length ≤ 4
      ·rw [if_pos ho] at hF
       obtain ⟨_, hF2⟩ := Prod.mk.inj hF
       rw [if_neg (by omega), ← hF2]; rfl
      ·rw [if_neg ho] at hF
       obtain ⟨_, hF2⟩ := Prod.mk.inj hF
       have hbl : b.length = q % 2 + (Jdp big e.Value).length := by rw [← hF2, List.length_append, Jg0]
       rw [if_pos (by omega), even_eq q (by omega), Jb, Jb, J7 (by unfold ev; omega), Jb, e2, hbl]
       congr 2
       unfold ev; omega
    rw [X2 _ hround, ih2 (i + 1) (q + b.length) (by omega) hd' (by omega)]
    congr 2
    omega
  have := key l 0 (ev p + 2 + 12 * l.length + 4) (by omega) rfl (by omega)
  have e0 : ((ev p : Nat) : Int) + 2 + 12 * (l.length : Int) + 4 = ((ev p + 2 + 12 * l.length + 4 : Nat) : Int) := by omega
  rw [e0]
  refine this.trans ?_
  rw [← hM']
  rfl
def filS (big : Bool) : List (List Ta) → List UInt8 → Nat → List UInt8
 | [], s, _ => s
 | l :: ls, s, link => filS big ls (put (s ++ U7 5 big l s.length) link (Wt big ((ev s.length : Nat) : Int) 4)) (ev s.length + 2 + 12 * l.length)
def lenF (big : Bool) : List (List Ta) → Nat → Nat
 | [], p => p
 | l :: ls, p => lenF big ls (p + (U7 5 big l p).length)
def szL : List (List Ta) → Nat
 | [] => 0
 | l :: ls => 8 + 32 * szD 5 l + szL ls
def dirsOk (ls : List (List Ta)) : Prop := ∀ l ∈ ls, okD 5 l ∧ szD 5 l ≤ 2000000
theorem dir5_len {big : Bool} {l : List Ta} {p : Nat} : ev p + 2 + 12 * l.length + 4 ≤ p + (U7 5 big l p).length := by
 have := Jih (U7 4 big) big l p
 show _ ≤ p + (dirB (U7 4 big) big l p).length
 omega
theorem filS_len (big : Bool) : ∀ (ls : List (List Ta)) (s : List UInt8) (link : Nat), link + 4 ≤ s.length → (filS big ls s link).length = lenF big ls s.length
 | [], _, _, _ => rfl
 | l :: ls, s, link, h => by
  unfold filS lenF
  have h5 := dir5_len (big := big) (l := l) (p := s.length)
  have hp : (put (s ++ U7 5 big l s.length) link (Wt big ((ev s.length : Nat) : Int) 4)).length = s.length + (U7 5 big l s.length).length := by
   rw [put_len (by rw [Zp _ _ (by omega), List.length_append]; omega), List.length_append]
  rw [filS_len big ls _ _ (by rw [hp]; omega), hp]
theorem oct_loop (f : Td) (hok : dirsOk f.kag) (hn : f.kag.length ≤ 20) : ∀ (ls : List (List Ta)) (i : Nat) (s : List UInt8) (link : Nat), i + ls.length = f.kag.length → f.kag.drop i = ls → link + 4 ≤ s.length → s.length + szL ls ≤ 549755813888 →
  Yz (fun next3 a => U2 f next3 a.1 a.2.1 a.2.2.1 a.2.2.2) ((link : Int), (i : Int), s, f.Big) = some (filS f.Big ls s link) := by
 intro ls
 induction ls with
 | nil =>
  intro i s link hi _ _ _
  rw [List.length_nil] at hi
  refine Ql fun next => ?_
  ·show U2 f next _ (i : Int) s f.Big = _
   unfold U2
   rw [cI, if_neg (by omega)]; rfl
 | cons l ls ih =>
  intro i s link hi hd hlk hsz
  rw [List.length_cons] at hi
  have hlt : i < f.kag.length := by omega
  have he : f.kag[i] = l := by have := List.drop_eq_getElem_cons hlt; rw [hd] at this; injection this with h1 h2; exact h1.symm
  have hd' : f.kag.drop (i + 1) = ls := by have := List.drop_eq_getElem_cons hlt; rw [hd] at this; injection this with h1 h2; exact h2.symm
  obtain ⟨o1, o2⟩ := hok l (he ▸ List.getElem_mem hlt)
  unfold szL at hsz
  have hle := dirS_le f.Big 5 l s.length
  have h5 := dir5_len (big := f.Big) (l := l) (p := s.length)
  have hl200 : l.length ≤ 200 := o1.1
  have hp : (put (s ++ U7 5 f.Big l s.length) link (Wt f.Big ((ev s.length : Nat) : Int) 4)).length = s.length + (U7 5 f.Big l s.length).length := by
   rw [put_len (by rw [Zp _ _ (by omega), List.length_append]; omega), List.length_append]
  have a1 := ih (i + 1) (put (s ++ U7 5 f.Big l s.length) link (Wt f.Big ((ev s.length : Nat) : Int) 4)) (ev s.length + 2 + 12 * l.length) (by omega) hd' (by rw [hp]; omega) (by rw [hp]; omega)
  have hev : ev s.length ≤ s.length + 1 := by unfold ev; omega
  ·refine Eq.trans (X2 _ fun next => ?_) a1
   show U2 f next (link : Int) (i : Int) s f.Big = _
   unfold U2
   rw [cI, if_pos (by omega), Qs hlt, Jb, he, R_dir_eq 5 f.Big s l o1 o2 (by omega), Jb]
   show Js (Yb ⟨s ++ U7 5 f.Big l s.length, f.Big⟩ _ _ 4) _ = _
   rw [Jes (p := link) (k := 4) (k' := 4) rfl rfl (by omega) (by rw [List.length_append]; omega) (by rw [List.length_append]; omega), Jb]
   show Js (gI (((ev s.length : Nat) : Int) + 2)) _ = _
   rw [J7 (by omega), Jb, J7 (by omega), Jb, J7 (by omega), Jb, J7 (by omega), Jb]
   rfl
def headS (big : Bool) : List UInt8 := (if big then [77, 77] else [73, 73]) ++ Wt big 42 2 ++ U4 4
theorem Jg2 (big : Bool) : (headS big).length = 8 := by
 unfold headS
 rw [List.length_append, List.length_append, Zp _ _ (by omega), Y5]
 cases big <;> rfl
def octF (f : Td) : List UInt8 := filS f.Big f.kag (headS f.Big) 4
theorem octF_len (f : Td) : (octF f).length = lenF f.Big f.kag 8 := by
 unfold octF; rw [filS_len _ _ _ _ (by rw [Jg2]; omega), Jg2]
theorem Octets_eq {f : Td} (hok : dirsOk f.kag) (hn : f.kag.length ≤ 20) (hsz : szL f.kag ≤ 274877906944) : Jhr f = some (octF f) := by
 have key : ∀ m : List UInt8, m.length = 2 → m ++ Wt f.Big 42 2 ++ U4 4 = headS f.Big → Jdc f m = some (octF f) := fun m hm hh => by
  unfold Jdc
  have hz : Wt f.Big 0 4 = U4 4 := num_zero f.Big (by omega)
  rw [R2, Jb, R4, Jb, hz, Xb (by rw [Zp _ _ (by omega), Y5]; omega), Jb, Xb (by rw [List.length_append, Zp _ _ (by omega), Y5]; omega), Jb, ← List.append_assoc, hh]
  exact (oct_loop f hok hn f.kag 0 (headS f.Big) 4 (by omega) rfl (by rw [Jg2]; omega) (by rw [Jg2]; omega))
 unfold Jhr
 cases h : f.Big
 ·rw [Jy, key [73, 73] rfl (by rw [h]; rfl)]
 ·rw [Qh, key [77, 77] rfl (by rw [h]; rfl)]
theorem size_eq {f : Td} (hok : dirsOk f.kag) (hn : f.kag.length ≤ 20) (hsz : szL f.kag ≤ 274877906944) : Jia f = some ((octF f).length : Int) := by
 rw [octF_len]
 unfold Jia
 have key : ∀ (ls : List (List Ta)) (i p : Nat), i + ls.length = f.kag.length → f.kag.drop i = ls → p + szL ls ≤ 549755813888 → Yz (fun next1 s => Uw f next1 s.1 s.2) ((p : Int), (i : Int)) = some (lenF f.Big ls p : Int) := by
  intro ls
  induction ls with
  | nil =>
   intro i p hi _ _
   rw [List.length_nil] at hi
   refine Ql fun next => ?_
   show Uw f next (p : Int) (i : Int) = _
   unfold Uw
   rw [cI, if_neg (by omega)]; rfl
  | cons l ls ih =>
   intro i p hi hd hs
   rw [List.length_cons] at hi
   have hlt : i < f.kag.length := by omega
   have he : f.kag[i] = l := by have := List.drop_eq_getElem_cons hlt; rw [hd] at this; injection this with h1 h2; exact h1.symm
   have hd' : f.kag.drop (i + 1) = ls := by have := List.drop_eq_getElem_cons hlt; rw [hd] at this; injection this with h1 h2; exact h2.symm
   obtain ⟨o1, o2⟩ := hok l (he ▸ List.getElem_mem hlt)
   unfold szL at hs
   have hle := dirS_le f.Big 5 l p
   refine Eq.trans (X2 (((p + (U7 5 f.Big l p).length : Nat) : Int), ((i + 1 : Nat) : Int)) fun next => ?_) (ih (i + 1) (p + (U7 5 f.Big l p).length) (by omega) hd' (by omega))
   show Uw f next (p : Int) (i : Int) = _
   unfold Uw
   rw [cI, if_pos (by omega), Qs hlt, Jb, he, dirEnd_eq f.Big 5 l p o1 o2 (by omega), Jb, J7 (by omega), Jb]
   rfl
 exact key f.kag 0 8 (by omega) rfl (by omega)
def Jaw : List (List Ta) → Int
 | [] => 0
 | l :: ls => if dE 5 l ≠ 0 then dE 5 l else Jaw ls
theorem Jiz : ∀ {ls : List (List Ta)}, Jaw ls = 0 → ∀ l ∈ ls, dE 5 l = 0
 | [], _, l, hl => by cases hl
 | x :: ls, h, l, hl => by
  unfold Jaw at h
  split at h
  ·rename_i h1; exact absurd h h1
  ·rename_i h1
   rcases List.mem_cons.1 hl with h' | h'
   ·subst h'; simpa using h1
   ·exact Jiz h l h'
theorem scan_dirs {F : (Int → Option Int) → Int → Option Int} (ls : List (List Ta)) (o : Option Int) (more : ∀ (next : Int → Option Int) (k : Nat) (hk : k < ls.length), F next (k : Int) = if dE 5 ls[k] ≠ 0 then some (dE 5 ls[k]) else next ((k : Int) + 1)) (stop : Jaw ls = 0 → ∀ next, F next (ls.length : Int) = o) :
  Yz F 0 = if Jaw ls ≠ 0 then some (Jaw ls) else o := by
 have key : ∀ m i : Nat, i + m = ls.length → (Jaw ls = Jaw (ls.drop i)) → Yz F (i : Int) = if Jaw ls ≠ 0 then some (Jaw ls) else o := by
  intro m
  induction m with
  | zero =>
   intro i hi hf
   have : i = ls.length := by omega
   subst this
   rw [List.drop_length] at hf
   have h0 : Jaw ls = 0 := hf
   rw [if_neg (by simpa using h0)]
   exact Ql (stop h0)
  | succ m ih =>
   intro i hi hf
   have hlt : i < ls.length := by omega
   rw [List.drop_eq_getElem_cons hlt] at hf
   unfold Jaw at hf
   by_cases h : dE 5 ls[i] ≠ 0
   ·rw [if_pos h] at hf
    have : Yz F (i : Int) = some (dE 5 ls[i]) := Ql fun next => by rw [more next i hlt, if_pos h]
    have hf' : Jaw ls = dE 5 ls[i] := by unfold Jaw; exact hf
    rw [this, hf', if_pos h]
   ·rw [if_neg h] at hf
    rw [X2 ((i : Int) + 1) (fun next => by rw [more next i hlt, if_neg h])]
    exact ih (i + 1) (by omega) (by conv => lhs; unfold Jaw
                                    exact hf)
 exact key ls.length 0 (by omega) rfl
def Je1 (f : Td) : Prop := (∀ l ∈ f.kag, szD 5 l ≤ 2000000) ∧ szL f.kag ≤ 274877906944
def Jcd (f : Td) : Int := if 20 < f.kag.length then 4 else if Jaw f.kag ≠ 0 then Jaw f.kag else if 65000 < (octF f).length then 4 else 0
theorem dirs_ok {f : Td} (hb : Je1 f) (h : Jaw f.kag = 0) : dirsOk f.kag := fun l hl => ⟨dE_ok (Jiz h l hl), hb.1 l hl⟩
theorem Jjv {f : Td} (hb : Je1 f) : Jc1 f = some (Jcd f) := by
 unfold Jc1 Jcd
 rw [cI]
 by_cases hn : 20 < f.kag.length
 ·rw [if_pos (by omega), if_pos hn]
 rw [if_neg (by omega), if_neg hn]
 rw [scan_dirs (F := fun next2 s => W2 f next2 s) f.kag (some (if 65000 < (octF f).length then 4 else 0)) (fun next k hk => ?_) (fun h0 next => ?_)]
 ·split <;> rfl
 ·show W2 f next (k : Int) = _
  unfold W2
  rw [cI, if_pos (by omega), Qs hk, Jb, Ji8 5 _ 1 (by omega) (by omega) (hb.1 _ (List.getElem_mem hk)), Jb, cI, J7 (by omega), Jb]
 ·show W2 f next (f.kag.length : Int) = _
  unfold W2
  rw [cI, if_neg (by omega)]
  unfold Jfw
  rw [size_eq (dirs_ok hb h0) (by omega) hb.2, Jb, cI]
  by_cases h : 65000 < (octF f).length
  ·rw [if_pos (by omega), if_pos h]
  ·rw [if_neg (by omega), if_neg h]
theorem Jic {f : Td} (hb : Je1 f) : Uy f = some (Jcd f) := by
 unfold Uy Jcd
 rw [cI]
 by_cases hn : 20 < f.kag.length
 ·rw [if_pos (by omega), if_pos hn]
 rw [if_neg (by omega), if_neg hn]
 rw [scan_dirs (F := fun next2 s => Vg f next2 s) f.kag (some (if 65000 < (octF f).length then 4 else 0)) (fun next k hk => ?_) (fun h0 next => ?_)]
 ·split <;> rfl
 ·show Vg f next (k : Int) = _
  unfold Vg
  rw [cI, if_pos (by omega), Qs hk, Jb, dirFault_eq 5 _ 1 (by omega) (by omega) (hb.1 _ (List.getElem_mem hk)), Jb, cI, J7 (by omega), Jb]
 ·show Vg f next (f.kag.length : Int) = _
  unfold Vg
  rw [cI, if_neg (by omega)]
  unfold Jel
  rw [Octets_eq (dirs_ok hb h0) (by omega) hb.2, Jb, cI]
  by_cases h : 65000 < (octF f).length
  ·rw [if_pos (by omega), if_pos h]
  ·rw [if_neg (by omega), if_neg h]
theorem fileE_zero {f : Td} (hb : Je1 f) (h : Jcd f = 0) : dirsOk f.kag ∧ f.kag.length ≤ 20 := by
 unfold Jcd at h
 split at h
 ·omega
 rename_i hn
 split at h
 ·rename_i h1; exact absurd h h1
 ·rename_i h1; exact ⟨dirs_ok hb (by simpa using h1), by omega⟩
theorem told_str {v w : List UInt8} {e f : Int} (h0 : f = 0 → v = w) (h1 : f ≠ 0 → v = []) (he : e = f) : Jb2 v e w f = some true := by
 subst he
 have key : Wj v e e v = some true := by
  unfold Wj; simp [J2]
 unfold Jb2
 rw [cI]
 by_cases h : e ≠ 0
 ·rw [if_pos h]; have := h1 h; subst this; exact key
 ·rw [if_neg h, ← h0 (by simpa using h)]; exact key
theorem szL_eq : ∀ ls : List (List Ta), szL ls = 8 * ls.length + 32 * (ls.map (szD 5)).sum
 | [] => rfl
 | l :: ls => by unfold szL; rw [szL_eq ls, List.map_cons, List.sum_cons, List.length_cons]; omega
theorem sz_in {l : List Ta} : ∀ {ls : List (List Ta)}, l ∈ ls → szD 5 l ≤ (ls.map (szD 5)).sum
 | [], h => by cases h
 | x :: ls, h => by
  rw [List.map_cons, List.sum_cons]
  rcases List.mem_cons.1 h with h | h
  ·subst h; omega
  ·have := sz_in h; omega
theorem fileB_of {f : Td} (h1 : f.kag.length ≤ 1048576) (h2 : (f.kag.map (szD 5)).sum ≤ 1048576) : Je1 f :=
 ⟨fun l hl => by have := sz_in hl; omega, by rw [szL_eq]; omega⟩
end
end Go.M

namespace Go.M
open Go.Md Go.Pl
theorem listE_cons {f : Ta → Int} {pr : Option Int} {e : Ta} {l : List Ta} (h : Jgq f pr (e :: l) = 0) : (0 ≤ e.Tag ∧ e.Tag ≤ 65535) ∧ (∀ t, pr = some t → ¬ e.Tag ≤ t) ∧ f e = 0 ∧ Jgq f (some e.Tag) l = 0 := by
 unfold Jgq at h
 split at h
 ·exact absurd h (by decide)
 split at h
 ·exact absurd h (by decide)
 split at h
 ·rename_i h3; exact absurd h h3
 rename_i h1 h2 h3
 exact ⟨by omega, fun t ht hle => h2 ⟨t, ht, hle⟩, Classical.byContradiction fun hc => h3 hc, h⟩
theorem Jhg {f : Td} (h : Jcd f = 0) : f.kag.length ≤ 20 ∧ (∀ l ∈ f.kag, dE 5 l = 0) ∧ (octF f).length ≤ 65000 := by
 unfold Jcd at h
 split at h
 ·exact absurd h (by decide)
 split at h
 ·rename_i h2; exact absurd h h2
 split at h
 ·exact absurd h (by decide)
 rename_i h1 h2 h3
 exact ⟨by omega, Jiz (Classical.byContradiction fun hc => h2 hc), by omega⟩
end Go.M

namespace Go.M
open Go.Md Go.Pl
noncomputable def valE (v : Tb) : Int := open Classical in if v.kad ≠ 13 then Jcp v else if Yj v ≠ 0 then Yj v else dE 5 v.kab
theorem CV_eq {v : Tb} (hb : vB v) (hz : szD 5 v.kab ≤ 2000000) : Up v = some (valE v) := by
 unfold Up valE
 rw [cI]
 by_cases h13 : v.kad = 13
 ·rw [if_neg (show ¬ v.kad ≠ 13 from fun h => h h13), if_neg (show ¬ v.kad ≠ 13 from fun h => h h13), Jep, Jb, cI]
  by_cases hf : Yj v ≠ 0
  ·rw [if_pos hf, if_pos hf]
  ·rw [if_neg hf, if_neg hf, Ji8 5 _ 1 (by omega) (by omega) hz, Jb]
 ·rw [if_pos h13, if_pos h13, Jhc hb, Jb]
theorem VF_plain {v : Tb} (hb : vB v) (h13 : v.kad ≠ 13) : Jac v = some (valE v) := by
 rw [Jg6 hb h13]; unfold valE; rw [if_pos h13]
end Go.M

namespace Go.M
open Go.Md Go.Pl
theorem fix_way {α ρ : Type} {F : (α → Option ρ) → α → Option ρ} {o : Option ρ} (st : Nat → α) (n : Nat) (more : ∀ k, k < n → ∀ next, F next (st k) = next (st (k + 1))) (stop : ∀ next, F next (st n) = o) : Yz F (st 0) = o := by
 have key : ∀ m, m ≤ n → Yz F (st (n - m)) = o := by
  intro m
  induction m with
  | zero => intro _; exact Ql stop
  | succ m ih =>
   intro h
   rw [X2 (b := st (n - (m + 1) + 1)) (more _ (by omega)), show n - (m + 1) + 1 = n - m from by omega]
   exact ih (by omega)
 simpa using key n (Nat.le_refl _)
def Jb6 (cs : List UInt8) : Nat → Bool := cs.foldl (fun m c => setA m c.toNat true) (fun _ => false)
theorem setC_iff (cs : List UInt8) (c : UInt8) : Jb6 cs c.toNat = true ↔ c ∈ cs := by
 have key : ∀ (cs : List UInt8) (m : Nat → Bool), cs.foldl (fun m c => setA m c.toNat true) m c.toNat = true ↔ m c.toNat = true ∨ c ∈ cs := by
  intro cs
  induction cs with
  | nil => intro m; simp
  | cons d cs ih =>
   intro m
   rw [List.foldl_cons, ih, List.mem_cons]
   unfold setA
   by_cases h : c.toNat = d.toNat
   ·have : c = d := UInt8.toNat_inj.1 h
    simp [this]
   ·have : c ≠ d := fun e => h (by rw [e])
    simp [h, this]
 unfold Jb6
 rw [key]; simp
theorem set_step {cs : List UInt8} (hcs : ∀ c ∈ cs, c.toNat < 128) (hl : cs.length ≤ 1000) {k : Nat} (hk : k < cs.length) (next : Int × (Nat → Bool) → Option ((Nat → Bool) × Bool)) (m : Nat → Bool) :
  Xj cs next (k : Int) m = next ((k + 1 : Nat), setA m cs[k].toNat true) := by
 have hc := hcs _ (List.getElem_mem hk)
 unfold Xj
 rw [Qn, if_pos (by omega), Jai hk, Jb, Qn, if_neg (by omega), gIx_nat (by omega), Jb, J7 (by omega), Jb]
 rfl
theorem set_eq {cs : List UInt8} (hcs : ∀ c ∈ cs, c.toNat < 128) (hl : cs.length ≤ 1000) : Ub cs = some (Jb6 cs, true) := by
 unfold Ub
 refine fix_way (fun k => ((k : Int), Jb6 (cs.take k))) cs.length (fun k hk next => ?_) (fun _ => ?_)
 ·show Xj cs next (k : Int) (Jb6 (cs.take k)) = _
  rw [set_step hcs hl hk]
  congr 2
  unfold Jb6
  rw [List.take_add_one, List.getElem?_eq_getElem hk, List.foldl_append]; rfl
 ·show Xj cs _ (cs.length : Int) (Jb6 (cs.take cs.length)) = _
  unfold Xj
  rw [Qn, if_neg (by omega), List.take_length]; rfl
theorem has_eq (cs : List UInt8) (c : UInt8) : Yy (Jb6 cs) (c.toNat : Int) = some (decide (c ∈ cs), Jb6 cs) := by
 have hc := c.toNat_lt
 unfold Yy
 rw [gIx_nat (by omega), Jb]
 congr 2
 rw [Bool.eq_iff_iff, setC_iff]; simp
theorem trimR {cs : List UInt8} (s : List UInt8) (hs : s.length ≤ 1000) : ∃ r : List UInt8 × (Nat → Bool), Vq s (Jb6 cs) = some r ∧ (∃ suf, s = r.1 ++ suf ∧ ∀ c ∈ suf, c ∈ cs) ∧ r.2 = Jb6 cs ∧ (∀ c, r.1.getLast? = some c → c ∉ cs) := by
 unfold Vq
 refine Jig (fun a => (∃ suf, s = a.1 ++ suf ∧ ∀ c ∈ suf, c ∈ cs) ∧ a.2 = Jb6 cs) (fun a => a.1.length) (fun (r : List UInt8 × (Nat → Bool)) => (∃ suf, s = r.1 ++ suf ∧ ∀ c ∈ suf, c ∈ cs) ∧ r.2 = Jb6 cs ∧ (∀ c, r.1.getLast? = some c → c ∉ cs)) ?_ (s, Jb6 cs) ⟨⟨[], by simp, by simp⟩, rfl⟩
 rintro ⟨x, m⟩ ⟨⟨suf, h1, h2⟩, h3⟩
 simp only at h1 h3
 subst h3
 have hl : x.length ≤ 1000 := by have := congrArg List.length h1; rw [List.length_append] at this; omega
 rcases List.eq_nil_or_concat x with rfl | ⟨ini, c, rfl⟩
 ·exact .inl ⟨([], Jb6 cs), ⟨⟨suf, h1, h2⟩, rfl, by simp⟩, fun _ => rfl⟩
 ·simp only [List.concat_eq_append, List.length_append, List.length_singleton] at *
  have e1 : gI (((ini.length + 1 : Nat) : Int) - 1) = some (ini.length : Int) := by rw [J7 (by omega)]; congr 1; omega
  have e2 : Xy (ini ++ [c]) (ini.length : Int) = some (c.toNat : Int) := by rw [Jai (by simp)]; simp
  have e3 : Xx (ini ++ [c]) 0 (ini.length : Int) = some ini := by rw [Jbm (by simp; omega)]; simp
  have key : ∀ next, Yx next (ini ++ [c]) (Jb6 cs) = if c ∈ cs then next (ini, Jb6 cs) else some (ini ++ [c], Jb6 cs) := by
   intro next
   unfold Yx
   rw [List.length_append, List.length_singleton, Qn, if_pos (by omega), e1, Jb, e2, Jb, has_eq, Jb, Jb, e3, Jb]
   by_cases hd : c ∈ cs
   ·rw [if_pos hd]; simp [hd]
   ·rw [if_neg hd]; simp [hd]
  by_cases hd : c ∈ cs
  ·refine .inr ⟨(ini, Jb6 cs), ⟨⟨c :: suf, by rw [h1]; simp, fun d hd' => ?_⟩, rfl⟩, by simp, fun next => (key next).trans (if_pos hd)⟩
   rcases List.mem_cons.1 hd' with rfl | h
   ·exact hd
   ·exact h2 d h
  ·exact .inl ⟨(ini ++ [c], Jb6 cs), ⟨⟨suf, h1, h2⟩, rfl, fun d hd' => by simp at hd'; subst hd'; exact hd⟩, fun next => (key next).trans (if_neg hd)⟩
theorem trimL {cs : List UInt8} (s : List UInt8) (hs : s.length ≤ 1000) : ∃ r : List UInt8 × (Nat → Bool), Wn s (Jb6 cs) = some r ∧ (∃ pre, s = pre ++ r.1 ∧ ∀ c ∈ pre, c ∈ cs) ∧ r.2 = Jb6 cs ∧ (∀ c, r.1.head? = some c → c ∉ cs) := by
 unfold Wn
 refine Jig (fun a => (∃ pre, s = pre ++ a.1 ∧ ∀ c ∈ pre, c ∈ cs) ∧ a.2 = Jb6 cs) (fun a => a.1.length) (fun (r : List UInt8 × (Nat → Bool)) => (∃ pre, s = pre ++ r.1 ∧ ∀ c ∈ pre, c ∈ cs) ∧ r.2 = Jb6 cs ∧ (∀ c, r.1.head? = some c → c ∉ cs)) ?_ (s, Jb6 cs) ⟨⟨[], by simp, by simp⟩, rfl⟩
 rintro ⟨x, m⟩ ⟨⟨pre, h1, h2⟩, h3⟩
 simp only at h1 h3
 subst h3
 cases x with
 | nil => exact .inl ⟨([], Jb6 cs), ⟨⟨pre, h1, h2⟩, rfl, by simp⟩, fun _ => rfl⟩
 | cons c x =>
  have e2 : Xy (c :: x) 0 = some (c.toNat : Int) := by rw [gOct_ok (by omega) (by simp)]; rfl
  have e3 : Xx (c :: x) 1 ((c :: x).length : Nat) = some x := by rw [V6 (by rw [List.length_cons]; omega)]; rfl
  have key : ∀ next, Za next (c :: x) (Jb6 cs) = if c ∈ cs then next (x, Jb6 cs) else some (c :: x, Jb6 cs) := by
   intro next
   unfold Za
   rw [Qn, if_pos (by rw [List.length_cons]; omega), e2, Jb, has_eq, Jb, e3, Jb]
   by_cases hd : c ∈ cs
   ·rw [if_pos hd]; simp [hd]
   ·rw [if_neg hd]; simp [hd]
  by_cases hd : c ∈ cs
  ·refine .inr ⟨(x, Jb6 cs), ⟨⟨pre ++ [c], by rw [h1]; simp, fun d hd' => ?_⟩, rfl⟩, by simp, fun next => (key next).trans (if_pos hd)⟩
   rcases List.mem_append.1 hd' with h | h
   ·exact h2 d h
   ·rw [List.mem_singleton.1 h]; exact hd
  ·exact .inl ⟨(c :: x, Jb6 cs), ⟨⟨pre, h1, h2⟩, rfl, fun d hd' => by simp at hd'; subst hd'; exact hd⟩, fun next => (key next).trans (if_neg hd)⟩
theorem trim_ok {cs : List UInt8} (hcs : ∀ c ∈ cs, c.toNat < 128) (h2 : 2 ≤ cs.length) (hcl : cs.length ≤ 1000) (s : List UInt8) (hs : s.length ≤ 1000) : ∃ r, Jbk s cs = some r ∧ (r = [] ↔ ∀ c ∈ s, c ∈ cs) := by
 unfold Jbk
 by_cases h0 : s = []
 ·subst h0; exact ⟨[], rfl, by simp⟩
 ·have hc0 : ¬ cs = [] := fun h => by rw [h] at h2; simp at h2
  rw [Qn, if_neg h0, Qn, if_neg hc0, Qn, if_neg (by omega)]
  obtain ⟨r, hr, ⟨suf, h1, h2⟩, h3, h4⟩ := trimR (cs := cs) s hs
  have hl : r.1.length ≤ 1000 := by have := congrArg List.length h1; rw [List.length_append] at this; omega
  obtain ⟨q, hq, ⟨pre, k1, k2⟩, _, k4⟩ := trimL (cs := cs) r.1 hl
  refine ⟨q.1, ?_, fun h c hc => ?_, fun h => ?_⟩
  ·unfold Jbz
   rw [set_eq hcs hcl, Jb, Qh, hr, Jb, h3, hq, Jb]
  ·rw [h1, k1, h] at hc
   simp only [List.append_nil, List.mem_append] at hc
   rcases hc with h | h
   ·exact k2 c h
   ·exact h2 c h
  ·cases hq1 : q.1 with
   | nil => rfl
   | cons c x =>
    exact absurd (h c (by rw [h1, k1, hq1]; simp)) (k4 c (by rw [hq1]; rfl))
end Go.M

namespace Go.M
open Go.Md Go.Pl
theorem cN {α : Type} {p : Prop} [Decidable p] {x y : Option α} (h : ¬ p) : J2 (decide p) x y = y := by rw [Qn, if_neg h]
theorem cY {α : Type} {p : Prop} [Decidable p] {x y : Option α} (h : p) : J2 (decide p) x y = x := by rw [Qn, if_pos h]
theorem Jks (s : List UInt8) (c : UInt8) : gIxB s (c.toNat : Int) = some (ixB s c) := by
 unfold gIxB
 rw [Int.toNat_natCast, show c.toNat.toUInt8 = c from by simp]
def Qk (c : UInt8) : List UInt8 → List UInt8 × List UInt8 × Bool
 | [] => ([], [], false)
 | b :: l => if b = c then ([], l, true) else (b :: (Qk c l).1, (Qk c l).2.1, (Qk c l).2.2)
theorem cutS_no {c : UInt8} {s : List UInt8} : (Qk c s).2.2 = false → Qk c s = (s, [], false) := by
 induction s with
 | nil => intro _; rfl
 | cons b l ih =>
  intro h
  unfold Qk at h ⊢
  by_cases hb : b = c
  ·rw [if_pos hb] at h; cases h
  ·rw [if_neg hb] at h ⊢; rw [ih h]
theorem Ua {c : UInt8} {s : List UInt8} : (Qk c s).2.2 = true → s = (Qk c s).1 ++ c :: (Qk c s).2.1 := by
 induction s with
 | nil => intro h; cases h
 | cons b l ih =>
  intro h
  unfold Qk at h ⊢
  by_cases hb : b = c
  ·rw [if_pos hb]; rw [hb]; rfl
  ·rw [if_neg hb] at h ⊢
   show b :: l = b :: ((Qk c l).1 ++ c :: (Qk c l).2.1)
   rw [← ih h]
theorem Jhu (c : UInt8) (s : List UInt8) : ixB s c = if (Qk c s).2.2 = true then ((Qk c s).1.length : Int) else -1 := by
 induction s with
 | nil => rfl
 | cons b l ih =>
  unfold ixB Qk
  by_cases hb : b = c
  ·rw [if_pos hb, if_pos hb]; rfl
  ·rw [if_neg hb, if_neg hb, ih]
   by_cases h : (Qk c l).2.2 = true
   ·simp only [if_pos h, List.length_cons]
    rw [if_neg (by omega)]; omega
   ·simp only [if_neg h, if_true]
theorem cutS_len (c : UInt8) (s : List UInt8) : (Qk c s).1.length + (Qk c s).2.1.length ≤ s.length := by
 by_cases h : (Qk c s).2.2 = true
 ·have := congrArg List.length (Ua h); simp at this; omega
 ·rw [cutS_no (by simpa using h)]; simp
theorem cutS_at {c : UInt8} {a b : List UInt8} (h : ∀ x ∈ a, x ≠ c) : Qk c (a ++ c :: b) = (a, b, true) := by
 induction a with
 | nil => simp [Qk]
 | cons x a ih =>
  show Qk c (x :: (a ++ c :: b)) = _
  unfold Qk
  rw [if_neg (h x (by simp)), ih fun y hy => h y (by simp [hy])]
theorem Jix (s : List UInt8) (c : UInt8) : Yn s [c] = some (ixB s c) := by
 unfold Yn
 rw [Qn, if_neg (by simp), Qn]
 by_cases h : [c] = s
 ·rw [if_pos h, ← h]; simp [ixB]
 ·rw [if_neg h, Qn, if_pos (show (([c] : List UInt8).length : Int) = 1 from rfl)]
  show Js (some (c.toNat : Int)) _ = _
  rw [Jb]
  unfold Q4
  rw [Jks]; rfl
theorem Jfr {s : List UInt8} (hs : s.length ≤ 9223372036854775000) (c : UInt8) : Ym s [c] = some (Qk c s) := by
 unfold Ym Uc
 rw [Jix, Jb, Jhu]
 by_cases h : (Qk c s).2.2 = true
 ·have hl := congrArg List.length (Ua h)
  rw [List.length_append, List.length_cons] at hl
  have e1 : s.take (Qk c s).1.length = (Qk c s).1 := by
   have := List.take_left' (l₁ := (Qk c s).1) (l₂ := c :: (Qk c s).2.1) rfl
   rwa [← Ua h] at this
  have e2 : s.drop ((Qk c s).1.length + 1) = (Qk c s).2.1 := by
   have := List.drop_left' (l₁ := (Qk c s).1 ++ [c]) (l₂ := (Qk c s).2.1) rfl
   rw [List.append_assoc, List.singleton_append, ← Ua h] at this
   simpa using this
  have e4 : (([c] : List UInt8).length : Int) = 1 := rfl
  rw [if_pos h, Qn, if_pos (by omega), Jbm (by omega), Jb, J7 (by rw [e4]; omega), Jb, V6 (by rw [e4]; omega), Jb, Jb]
  have e3 : (((Qk c s).1.length : Int) + (([c] : List UInt8).length : Int)).toNat = (Qk c s).1.length + 1 := by rw [e4]; omega
  rw [e3, e2, Int.toNat_natCast, e1, ← h]
 ·rw [if_neg h, Qn, if_neg (by omega), Jb, cutS_no (by simpa using h)]
theorem Pre_eq (s : List UInt8) (c : UInt8) : Xf s [c] = some (decide (s.head? = some c)) := by
 unfold Xf
 rw [Qn]
 cases s with
 | nil => simp
 | cons b l =>
  have e4 : (([c] : List UInt8).length : Int) = 1 := rfl
  rw [if_pos (by rw [e4, List.length_cons]; omega), Jbm (by rw [e4, List.length_cons]; omega), Jb]
  simp
theorem TrimP_eq (s : List UInt8) (c : UInt8) : Wg s [c] = some (if s.head? = some c then s.tail else s) := by
 unfold Wg Z5
 rw [Pre_eq, Jb]
 by_cases h : s.head? = some c
 ·have h1 : 1 ≤ s.length := by cases s with | nil => cases h | cons => simp
  rw [decide_eq_true h, Qh, V6 (by rw [show (([c] : List UInt8).length : Int) = 1 from rfl]; omega), Jb, Jb, if_pos h]
  simp [List.drop_one]
 ·rw [decide_eq_false h, Jy, Jb, if_neg h]
def dg (c : UInt8) : Bool := decide (48 ≤ c.toNat ∧ c.toNat ≤ 57)
def Jbc (a : Nat) (l : List UInt8) : Nat := l.foldl (fun n c => n * 10 + (c.toNat - 48)) a
def D10 : List UInt8 := [48, 49, 50, 51, 52, 53, 54, 55, 56, 57]
theorem dg_mem (c : UInt8) : c ∈ D10 ↔ dg c = true := by
 unfold dg
 rw [decide_eq_true_iff]
 constructor
 ·intro h
  simp only [D10, List.mem_cons, List.not_mem_nil, or_false] at h
  rcases h with h | h | h | h | h | h | h | h | h | h <;> subst h <;> decide
 ·intro h
  have e : c = UInt8.ofNat c.toNat := by simp
  have : c.toNat = 48 ∨ c.toNat = 49 ∨ c.toNat = 50 ∨ c.toNat = 51 ∨ c.toNat = 52 ∨ c.toNat = 53 ∨ c.toNat = 54 ∨ c.toNat = 55 ∨ c.toNat = 56 ∨ c.toNat = 57 := by omega
  rcases this with h | h | h | h | h | h | h | h | h | h <;> rw [h] at e <;> rw [e] <;> decide
theorem TrimD (s : List UInt8) (hs : s.length ≤ 1000) : ∃ r, Jbk s [48, 49, 50, 51, 52, 53, 54, 55, 56, 57] = some r ∧ (r = [] ↔ s.all dg = true) := by
 obtain ⟨r, h1, h2⟩ := trim_ok (cs := D10) (by decide) (by decide) (by decide) s hs
 refine ⟨r, h1, h2.trans ?_⟩
 rw [List.all_eq_true]
 exact ⟨fun h c hc => (dg_mem c).1 (h c hc), fun h c hc => (dg_mem c).2 (h c hc)⟩
theorem decF_val {l : List UInt8} : ∀ {a : Nat}, l.all dg = true → decF a l = some (Jbc a l) := by
 induction l with
 | nil => intro a _; rfl
 | cons c l ih =>
  intro a h
  rw [List.all_cons, Bool.and_eq_true] at h
  unfold decF digV
  have := h.1
  unfold dg at this
  rw [decide_eq_true_iff] at this
  rw [if_pos this]
  exact ih h.2
theorem atoi_val {l : List UInt8} (hl : l ≠ []) (hn : l.length ≤ 18) (h : l.all dg = true) : Jhx l = some ((Jbc 0 l : Nat) : Int) := by
 unfold Jhx
 rw [if_pos hn]
 cases l with
 | nil => exact absurd rfl hl
 | cons c l =>
  have hc : dg c = true := by rw [List.all_cons, Bool.and_eq_true] at h; exact h.1
  have h45 : ¬ (c == 45) = true := by intro e; rw [beq_iff_eq] at e; subst e; revert hc; decide
  have h43 : ¬ (c == 43) = true := by intro e; rw [beq_iff_eq] at e; subst e; revert hc; decide
  show (if (c == 45) = true then _ else if (c == 43) = true then _ else (decN (c :: l)).map fun (m : Nat) => (m : Int)) = _
  rw [if_neg h45, if_neg h43]
  unfold decN
  rw [if_neg (by simp), decF_val h]; rfl
theorem valS_app (a : Nat) (l m : List UInt8) : Jbc a (l ++ m) = Jbc (Jbc a l) m := List.foldl_append
theorem valS_acc (l : List UInt8) : ∀ a : Nat, Jbc a l = a * 10 ^ l.length + Jbc 0 l := by
 induction l with
 | nil => intro a; simp [Jbc]
 | cons c l ih =>
  intro a
  show Jbc (a * 10 + (c.toNat - 48)) l = _ + Jbc (0 * 10 + (c.toNat - 48)) l
  rw [ih (a * 10 + (c.toNat - 48)), ih (0 * 10 + (c.toNat - 48)), List.length_cons, Nat.pow_succ, Nat.zero_mul, Nat.zero_add, Nat.add_mul, Nat.add_assoc, Nat.mul_assoc, Nat.mul_comm 10]
theorem valS_lt {l : List UInt8} (h : l.all dg = true) : Jbc 0 l < 10 ^ l.length := by
 induction l with
 | nil => simp [Jbc]
 | cons c l ih =>
  rw [List.all_cons, Bool.and_eq_true] at h
  have h1 := ih h.2
  have h2 := h.1
  unfold dg at h2
  rw [decide_eq_true_iff] at h2
  show Jbc (0 * 10 + (c.toNat - 48)) l < _
  rw [valS_acc, List.length_cons, Nat.pow_succ, Nat.zero_mul, Nat.zero_add]
  have h3 : (c.toNat - 48) * 10 ^ l.length ≤ 9 * 10 ^ l.length := Nat.mul_le_mul_right _ (by omega)
  omega
theorem Jjo {d : Nat} (h : d < 10) : dg (UInt8.ofNat (48 + d)) = true ∧ (UInt8.ofNat (48 + d)).toNat - 48 = d := by
 have e : (UInt8.ofNat (48 + d)).toNat = 48 + d := by rw [UInt8.toNat_ofNat']; omega
 unfold dg
 rw [e, decide_eq_true_iff]
 omega
theorem decD_spec : ∀ (k u : Nat), u < 10 ^ (k + 1) → (Jdw u).all dg = true ∧ Jbc 0 (Jdw u) = u ∧ Jdw u ≠ [] ∧ (Jdw u).length ≤ k + 1 ∧ ((Jdw u).head? = some 48 → u = 0) ∧ (u = 0 → Jdw u = [48]) := by
 intro k
 induction k with
 | zero =>
  intro u hu
  have hu : u < 10 := by simpa using hu
  unfold Jdw
  rw [if_pos hu]
  obtain ⟨h1, h2⟩ := Jjo hu
  refine ⟨by rw [List.all_cons, h1]; rfl, ?_, by simp, by simp, fun h => ?_, fun h => by subst h; rfl⟩
  ·show 0 * 10 + ((UInt8.ofNat (48 + u)).toNat - 48) = u
   omega
  ·simp only [List.head?_cons, Option.some.injEq] at h
   rw [h] at h2
   simpa using h2.symm
 | succ k ih =>
  intro u hu
  unfold Jdw
  by_cases h10 : u < 10
  ·rw [if_pos h10]
   obtain ⟨h1, h2⟩ := Jjo h10
   refine ⟨by rw [List.all_cons, h1]; rfl, ?_, by simp, by simp, fun h => ?_, fun h => by subst h; rfl⟩
   ·show 0 * 10 + ((UInt8.ofNat (48 + u)).toNat - 48) = u
    omega
   ·simp only [List.head?_cons, Option.some.injEq] at h
    rw [h] at h2
    simpa using h2.symm
  ·rw [if_neg h10]
   obtain ⟨h1, h2⟩ := Jjo (d := u % 10) (by omega)
   obtain ⟨i1, i2, i3, i4, i5, i6⟩ := ih (u / 10) (by rw [Nat.pow_succ] at hu; omega)
   refine ⟨by rw [List.all_append, i1, List.all_cons, h1]; rfl, ?_, by simp, by simp; omega, fun h => ?_, fun h => by omega⟩
   ·rw [valS_app, i2]
    show u / 10 * 10 + ((UInt8.ofNat (48 + u % 10)).toNat - 48) = u
    omega
   ·exfalso
    have : (Jdw (u / 10)).head? = some 48 := by
     cases hd : Jdw (u / 10) with
     | nil => exact absurd hd i3
     | cons c l => rw [hd] at h; simpa using h
    have := i5 this
    omega
theorem head_ne {a : List UInt8} (h : a ≠ []) (c : UInt8) : Xy a 0 = some ((a.head h).toNat : Int) := by
 cases a with
 | nil => exact absurd rfl h
 | cons x a => rfl
theorem head48 {a : List UInt8} (h : a ≠ []) : ((a.head h).toNat : Int) = 48 ↔ a.head? = some 48 := by
 cases a with
 | nil => exact absurd rfl h
 | cons x a =>
  simp only [List.head_cons, List.head?_cons, Option.some.injEq]
  constructor
  ·intro e
   have : x = UInt8.ofNat x.toNat := by simp
   rw [show x.toNat = 48 from by omega] at this
   exact this
  ·intro e; subst e; rfl
end Go.M

namespace Go.M
open Go.Md
theorem valS_pos {l : List UInt8} (h : l.all dg = true) (h0 : l ≠ []) (hh : l.head? ≠ some 48) : 1 ≤ Jbc 0 l := by
 cases l with
 | nil => exact absurd rfl h0
 | cons c l =>
  rw [List.all_cons, Bool.and_eq_true] at h
  have h2 := h.1
  unfold dg at h2
  rw [decide_eq_true_iff] at h2
  have h3 : c ≠ 48 := fun e => hh (by rw [e]; rfl)
  have h4 : c.toNat ≠ 48 := fun e => h3 (by rw [← UInt8.ofNat_toNat (x := c), e]; rfl)
  show 1 ≤ Jbc (0 * 10 + (c.toNat - 48)) l
  rw [valS_acc]
  have : 1 * 10 ^ l.length ≤ (0 * 10 + (c.toNat - 48)) * 10 ^ l.length := Nat.mul_le_mul_right _ (by omega)
  have := Nat.one_le_two_pow (n := 0)
  have h10 : 1 ≤ 10 ^ l.length := Nat.one_le_pow _ _ (by omega)
  omega
theorem dg_back {c : UInt8} (h : dg c = true) : UInt8.ofNat (48 + (c.toNat - 48)) = c := by
 unfold dg at h
 rw [decide_eq_true_iff] at h
 rw [show 48 + (c.toNat - 48) = c.toNat from by omega, UInt8.ofNat_toNat]
theorem decD_back : ∀ (k : Nat) (l : List UInt8), l.length ≤ k → l.all dg = true → l ≠ [] → (l.head? = some 48 → l = [48]) → Jdw (Jbc 0 l) = l := by
 intro k
 induction k with
 | zero => intro l hk _ h0; exact absurd (List.length_eq_zero_iff.1 (by omega)) h0
 | succ k ih =>
  intro l hk h h0 hh
  have e := List.dropLast_concat_getLast h0
  generalize hm : l.dropLast = m at e
  generalize hc : l.getLast h0 = c at e
  have hd : m.all dg = true ∧ dg c = true := by
   rw [← e, List.all_append, Bool.and_eq_true] at h
   exact ⟨h.1, by simpa using h.2⟩
  have hcd := hd.2
  unfold dg at hcd
  rw [decide_eq_true_iff] at hcd
  have hv : Jbc 0 l = Jbc 0 m * 10 + (c.toNat - 48) := by rw [← e, valS_app]; rfl
  have hl : m.length + 1 = l.length := by rw [← e]; simp
  by_cases m0 : m = []
  ·subst m0
   rw [hv, show Jbc 0 [] = 0 from rfl, Nat.zero_mul, Nat.zero_add]
   unfold Jdw
   rw [if_pos (by omega), dg_back hd.2]
   exact e
  ·have mh : m.head? ≠ some 48 := fun e1 => by
    have : l.head? = some 48 := by rw [← e, List.head?_append, e1]; rfl
    have := hh this
    rw [this] at hl
    have : m.length = 0 := by simpa using hl
    exact m0 (List.length_eq_zero_iff.1 this)
   have p1 := valS_pos hd.1 m0 mh
   have i1 := ih m (by omega) hd.1 m0 (fun e1 => absurd e1 mh)
   unfold Jdw
   rw [hv, if_neg (by omega), show (Jbc 0 m * 10 + (c.toNat - 48)) / 10 = Jbc 0 m from by omega, show (Jbc 0 m * 10 + (c.toNat - 48)) % 10 = c.toNat - 48 from by omega, i1, dg_back hd.2]
   exact e
def Jbs (s : List UInt8) : List UInt8 := if s.head? = some 45 then s.tail else s
def numV (s : List UInt8) : Int := if s.head? = some 45 then -((Jbc 0 s.tail : Nat) : Int) else ((Jbc 0 s : Nat) : Int)
def Jdy (n : Nat) (s : List UInt8) : Prop := Jbs s ≠ [] ∧ (Jbs s).length ≤ n ∧ (Jbs s).all dg = true ∧ ((Jbs s).head? = some 48 → s = [48])
theorem numV_lt {s : List UInt8} {n : Nat} (hd : (Jbs s).all dg = true) (hn : (Jbs s).length ≤ n) : -((10 ^ n : Nat) : Int) < numV s ∧ numV s < ((10 ^ n : Nat) : Int) := by
 have h1 := valS_lt hd
 have h2 : 10 ^ (Jbs s).length ≤ 10 ^ n := Nat.pow_le_pow_right (by omega) hn
 unfold numV
 unfold Jbs at h1 h2
 split
 ·rename_i h; rw [if_pos h] at h1 h2; omega
 ·rename_i h; rw [if_neg h] at h1 h2; omega
theorem atoi_num {s : List UInt8} (h0 : Jbs s ≠ []) (hn : (Jbs s).length ≤ 17) (hd : (Jbs s).all dg = true) : Jhx s = some (numV s) := by
 unfold Jbs at h0 hn hd
 unfold numV
 by_cases h : s.head? = some 45
 ·rw [if_pos h] at h0 hn hd ⊢
  cases s with
  | nil => cases h
  | cons c l =>
   have hc : c = 45 := by simpa using h
   subst hc
   rw [List.tail_cons] at h0 hn hd ⊢
   unfold Jhx
   rw [if_pos (by simp; omega)]
   show (if ((45 : UInt8) == 45) = true then (decN l).map fun (m : Nat) => -(m : Int) else if ((45 : UInt8) == 43) = true then (decN l).map fun (m : Nat) => (m : Int) else (decN (45 :: l)).map fun (m : Nat) => (m : Int)) = _
   rw [if_pos (by decide)]
   unfold decN
   rw [if_neg (by simpa using h0), decF_val hd]; rfl
 ·rw [if_neg h] at h0 hn hd ⊢
  exact atoi_val h0 (by omega) hd
theorem decD_zero : Jdw 0 = [48] := by unfold Jdw; rw [if_pos (by omega)]; rfl
theorem itoa_num {s : List UInt8} (h0 : Jbs s ≠ []) (hd : (Jbs s).all dg = true) : Wq (numV s) = s ↔ ((Jbs s).head? = some 48 → s = [48]) := by
 unfold Jbs at h0 hd ⊢
 unfold numV
 by_cases h : s.head? = some 45
 ·rw [if_pos h] at h0 hd ⊢
  rw [if_pos h]
  cases s with
  | nil => cases h
  | cons c l =>
   have hc : c = 45 := by simpa using h
   subst hc
   rw [List.tail_cons] at h0 hd ⊢
   by_cases hh : l.head? = some 48
   ·refine ⟨fun e => ?_, fun e => ?_⟩
    ·exfalso
     unfold Wq at e
     split at e
     ·rename_i hneg
      have e1 : Jdw (Jbc 0 l) = l := by
       have : (-((Jbc 0 l : Nat) : Int)).natAbs = Jbc 0 l := by omega
       rw [this] at e
       simpa using e
      obtain ⟨k, hk⟩ : ∃ k, Jbc 0 l < 10 ^ (k + 1) := ⟨l.length, Nat.lt_of_lt_of_le (valS_lt hd) (Nat.pow_le_pow_right (by omega) (by omega))⟩
      have := (decD_spec k _ hk).2.2.2.2.1 (by rw [e1]; exact hh)
      omega
     ·rename_i hneg
      have hv : Jbc 0 l = 0 := by omega
      rw [hv] at e
      rw [show (-((0 : Nat) : Int)).toNat = 0 from rfl, decD_zero] at e
      simp at e
    ·have := e hh
     simp at this
   ·refine ⟨fun _ e => absurd e hh, fun _ => ?_⟩
    have p1 := valS_pos hd h0 hh
    unfold Wq
    rw [if_pos (by omega), show (-((Jbc 0 l : Nat) : Int)).natAbs = Jbc 0 l from by omega, decD_back l.length l (Nat.le_refl _) hd h0 (fun e => absurd e hh)]
 ·rw [if_neg h] at h0 hd ⊢
  rw [if_neg h]
  have e1 : Wq ((Jbc 0 s : Nat) : Int) = Jdw (Jbc 0 s) := by unfold Wq; rw [if_neg (by omega), Int.toNat_natCast]
  rw [e1]
  refine ⟨fun e hh => ?_, fun e => decD_back s.length s (Nat.le_refl _) hd h0 e⟩
  obtain ⟨k, hk⟩ : ∃ k, Jbc 0 s < 10 ^ (k + 1) := ⟨s.length, Nat.lt_of_lt_of_le (valS_lt hd) (Nat.pow_le_pow_right (by omega) (by omega))⟩
  obtain ⟨_, _, _, _, a5, a6⟩ := decD_spec k _ hk
  have := a5 (by rw [e]; exact hh)
  rw [a6 this] at e
  exact e.symm
end Go.M

namespace Go.M
open Go.Md Go.Pl
theorem j2_split {B n k : Nat} {x : List UInt8} {l : List (List UInt8)} (hk : k ≤ n) (hn : n ≤ 2000000) (hl : l.length = n + 1) (hx : x.length ≤ B) (hb : ∀ y ∈ l, y.length ≤ B) :
  ∃ r, Y3 x (k : Int) l = some r ∧ r ≠ [] ∧ r.length ≤ n + 1 ∧ ∀ y ∈ r, y.length ≤ B := by
 unfold Y3
 rw [Qs (by omega), Jb, Jb3 (by omega) (by omega), Jb, J7 (by omega), Jb, Jbm (by rw [List.length_set]; omega), Jb]
 refine ⟨_, rfl, fun e => ?_, ?_, fun y hy => ?_⟩
 ·have := congrArg List.length e
  rw [List.length_take, List.length_set] at this
  simp only [List.length_nil] at this
  omega
 ·rw [List.length_take, List.length_set]; omega
 ·rcases List.mem_or_eq_of_mem_set (List.mem_of_mem_take hy) with h | h
  ·exact hb y h
  ·rw [h]; exact hx
theorem split_loop {B n : Nat} (hn : n ≤ 2000000) (hB : B ≤ 2000000) (c : UInt8) (s : List UInt8) (l : List (List UInt8)) (hl : l.length = n + 1) (hs : s.length ≤ B) (hb : ∀ y ∈ l, y.length ≤ B) :
  ∃ r, Yz (fun next3 s => Qg [c] 0 (n : Int) next3 s.1 s.2.1 s.2.2) (s, (0 : Int), l) = some r ∧ r ≠ [] ∧ r.length ≤ n + 1 ∧ ∀ y ∈ r, y.length ≤ B := by
 refine Jig (fun a : List UInt8 × Int × List (List UInt8) => ∃ k : Nat, a.2.1 = (k : Int) ∧ k ≤ n ∧ a.1.length ≤ B ∧ a.2.2.length = n + 1 ∧ ∀ y ∈ a.2.2, y.length ≤ B) (fun a : List UInt8 × Int × List (List UInt8) => n - a.2.1.toNat) (fun r : List (List UInt8) => r ≠ [] ∧ r.length ≤ n + 1 ∧ ∀ y ∈ r, y.length ≤ B) ?_ (s, (0 : Int), l) ⟨0, rfl, by omega, hs, hl, hb⟩
 rintro ⟨x, i, l⟩ ⟨k, hk, hkn, hx, hl, hb⟩
 simp only at hk hx hl hb
 subst hk
 obtain ⟨r, hr, hr2⟩ := j2_split hkn hn hl hx hb
 by_cases hlt : k < n
 ·have hi : Ug x [c] = some (ixB x c) := by unfold Ug; rw [Jix, Jb]
  by_cases hc : (Qk c x).2.2 = true
  ·right
   have hix := Jhu c x
   rw [if_pos hc] at hix
   have hln := congrArg List.length (Ua hc)
   rw [List.length_append, List.length_cons] at hln
   have hm : (Qk c x).1.length < x.length := by omega
   refine ⟨(x.drop ((Qk c x).1.length + 1), ((k + 1 : Nat) : Int), l.set k (x.take (Qk c x).1.length)), ⟨k + 1, rfl, by omega, by rw [List.length_drop]; omega, by rw [List.length_set]; exact hl, fun y hy => ?_⟩, ?_, fun next => ?_⟩
   ·rcases List.mem_or_eq_of_mem_set hy with h | h
    ·exact hb y h
    ·rw [h, List.length_take]; omega
   ·show n - (((k + 1 : Nat) : Int)).toNat < n - ((k : Int)).toNat
    omega
   ·show Qg [c] 0 (n : Int) next x (k : Int) l = _
    unfold Qg
    have e1 : (([c] : List UInt8).length : Int) = 1 := rfl
    rw [Qn, if_pos (by omega), hi, Jb, hix, Qn, if_neg (by omega), J7 (by omega), Jb, Jbm (by omega), Jb, Qs (by omega), Jb, Jb3 (by omega) (by omega), Jb, e1, J7 (by omega), Jb, V6 (by omega), Jb, J7 (by omega), Jb]
    rw [show (((Qk c x).1.length : Int) + 0).toNat = (Qk c x).1.length from by omega, show (((Qk c x).1.length : Int) + 1).toNat = (Qk c x).1.length + 1 from by omega, Int.toNat_natCast]
    rfl
  ·left
   refine ⟨r, hr2, fun next => ?_⟩
   show Qg [c] 0 (n : Int) next x (k : Int) l = _
   unfold Qg
   have hix := Jhu c x
   rw [if_neg hc] at hix
   rw [Qn, if_pos (by omega), hi, Jb, hix, Qn, if_pos (by omega), hr]
 ·left
  refine ⟨r, hr2, fun next => ?_⟩
  show Qg [c] 0 (n : Int) next x (k : Int) l = _
  unfold Qg
  rw [Qn, if_neg (by omega), hr]
theorem Split_ok (c : UInt8) (s : List UInt8) (hs : s.length ≤ 1000000) : ∃ r, Vx s [c] = some r ∧ r ≠ [] ∧ r.length ≤ s.length + 1 ∧ ∀ y ∈ r, y.length ≤ s.length := by
 have hc := List.count_le_length (a := c) (l := s)
 have e1 : Jaq s [c] = some ((s.count c : Nat) : Int) := by
  unfold Jaq
  rw [Qn, if_neg (by simp), Qn, if_pos (by rfl), show Xy [c] 0 = some (c.toNat : Int) from rfl, Jb, show gCnB s (c.toNat : Int) = some ((s.count c : Nat) : Int) from by unfold gCnB; rw [Int.toNat_natCast]; simp, Jb]
 obtain ⟨r, h1, h2, h3, h4⟩ := split_loop (B := s.length) (n := s.count c) (by omega) (by omega) c s (List.replicate (s.count c + 1) []) (by simp) (Nat.le_refl _) (fun y hy => by rw [(List.mem_replicate.1 hy).2]; simp)
 refine ⟨r, ?_, h2, by omega, h4⟩
 unfold Vx Uo
 rw [Qn, if_neg (by omega), Qn, if_neg (by simp), Qn, if_pos (by omega), e1, Jb, J7 (by omega), Jb]
 unfold Vo
 rw [J7 (by omega), Jb, show min ((s.count c : Int) + 1) ((s.length : Int) + 1) = ((s.count c + 1 : Nat) : Int) from by omega, Jju (by omega), Jb, J7 (by omega), Jb, Int.toNat_natCast, show (((s.count c + 1 : Nat) : Int) - 1) = ((s.count c : Nat) : Int) from by omega, h1, Jb]
end Go.M

namespace Go.M
open Go.Md Go.Pl
theorem decD_len (u : Nat) (k : Nat) (h : u < 10 ^ (k + 1)) : (Jdw u).length ≤ k + 1 := by
 induction k generalizing u with
 | zero => rw [Jdw, if_pos (by omega)]; simp
 | succ k ih =>
  rw [Jdw]
  split
  ·simp
  ·have := ih (u / 10) (by rw [Nat.pow_succ] at h; omega)
   rw [List.length_append, List.length_singleton]; omega
end Go.M

namespace Go.M
open Go.Md Go.Pl
instance (n : Nat) (s : List UInt8) : Decidable (Jdy n s) := by unfold Jdy; infer_instance
theorem pn_j1 (s : List UInt8) : ∃ v, Zj s (Jbs s) = some (v, decide (Jdy 10 s)) ∧ (Jdy 10 s → v = numV s) := by
 unfold Zj
 rw [Qn, Qn]
 by_cases h0 : Jbs s = []
 ·rw [if_pos h0]
  have : ¬ Jdy 10 s := fun h => h.1 h0
  exact ⟨0, by simp [this], fun h => absurd h this⟩
 by_cases h4 : (Jbs s).length ≤ 10
 ·obtain ⟨r, hr, hr2⟩ := TrimD (Jbs s) (by omega)
  rw [if_neg h0, if_neg (by omega), hr, Jb, Qn]
  by_cases hd : (Jbs s).all dg = true
  ·have hb := numV_lt hd h4
   rw [if_neg (fun h => h (hr2.2 hd)), atoi_num h0 (by omega) hd, Jb, show Y8 (numV s) = some (Wq (numV s)) from if_pos (by omega), Jb]
   refine ⟨numV s, ?_, fun _ => rfl⟩
   congr 2
   rw [decide_eq_decide, itoa_num h0 hd]
   exact ⟨fun h => ⟨h0, h4, hd, h⟩, fun h => h.2.2.2⟩
  ·have : ¬ Jdy 10 s := fun h => hd h.2.2.1
   rw [if_pos (fun h => hd (hr2.1 h))]
   exact ⟨0, by simp [this], fun h => absurd h this⟩
 ·rw [if_neg h0, if_pos (by omega)]
  have : ¬ Jdy 10 s := fun h => h4 h.2.1
  exact ⟨0, by simp [this], fun h => absurd h this⟩
theorem wh_j1 (s : List UInt8) : ∃ v, Jca s 10 (Jbs s) = some (v, decide (Jdy 10 s)) ∧ (Jdy 10 s → v = numV s) := by
 unfold Jca
 rw [Qn, Qn]
 by_cases h0 : Jbs s = []
 ·rw [if_pos h0]
  have : ¬ Jdy 10 s := fun h => h.1 h0
  exact ⟨0, by simp [this], fun h => absurd h this⟩
 by_cases h4 : (Jbs s).length ≤ 10
 ·obtain ⟨r, hr, hr2⟩ := TrimD (Jbs s) (by omega)
  rw [if_neg h0, if_neg (by omega), hr, Jb, Qn]
  by_cases hd : (Jbs s).all dg = true
  ·rw [if_neg (fun h => h (hr2.2 hd)), head_ne h0 0, Jb, Qn, Qn]
   have j2 : Jei s = some (numV s, true) := by
    unfold Jei
    rw [atoi_num h0 (by omega) hd, Jb]
   by_cases h48 : (((Jbs s).head h0).toNat : Int) = 48
   ·rw [if_pos h48]
    by_cases hz : s = [48]
    ·have : Jdy 10 s := ⟨h0, h4, hd, fun _ => hz⟩
     rw [if_neg (by simpa using hz), j2]
     exact ⟨_, by simp [this], fun _ => rfl⟩
    ·have : ¬ Jdy 10 s := fun h => hz (h.2.2.2 ((head48 h0).1 h48))
     rw [if_pos hz]
     exact ⟨0, by simp [this], fun h => absurd h this⟩
   ·have : Jdy 10 s := ⟨h0, h4, hd, fun h => absurd ((head48 h0).2 h) h48⟩
    rw [if_neg h48, j2]
    exact ⟨_, by simp [this], fun _ => rfl⟩
  ·have : ¬ Jdy 10 s := fun h => hd h.2.2.1
   rw [if_pos (fun h => hd (hr2.1 h))]
   exact ⟨0, by simp [this], fun h => absurd h this⟩
 ·rw [if_neg h0, if_pos (by omega)]
  have : ¬ Jdy 10 s := fun h => h4 h.2.1
  exact ⟨0, by simp [this], fun h => absurd h this⟩
def nOk (sg : Bool) (s : List UInt8) : Prop := Jdy 10 s ∧ (sg = false → s.head? ≠ some 45)
instance (sg : Bool) (s : List UInt8) : Decidable (nOk sg s) := by unfold nOk; infer_instance
theorem bad_all {s : List UInt8} (h : s.head? = some 45) : ¬ s.all dg = true := by
 cases s with
 | nil => cases h
 | cons c l =>
  have : c = 45 := by simpa using h
  subst this
  rw [List.all_cons]
  intro e
  rw [Bool.and_eq_true] at e
  exact absurd e.1 (by decide)
theorem pn_bad {s : List UInt8} (h : s.head? = some 45) : Zj s s = some (0, false) := by
 unfold Zj
 have h0 : s ≠ [] := fun e => by rw [e] at h; cases h
 rw [Qn, if_neg h0, Qn]
 by_cases hl : 10 < (s.length : Int)
 ·rw [if_pos hl]
 ·obtain ⟨r, hr, hr2⟩ := TrimD s (by omega)
  rw [if_neg hl, hr, Jb, Qn, if_pos (fun e => bad_all h (hr2.1 e))]
theorem wh_bad {s : List UInt8} (h : s.head? = some 45) : Jca s 10 s = some (0, false) := by
 unfold Jca
 have h0 : s ≠ [] := fun e => by rw [e] at h; cases h
 rw [Qn, if_neg h0, Qn]
 by_cases hl : 10 < (s.length : Int)
 ·rw [if_pos hl]
 ·obtain ⟨r, hr, hr2⟩ := TrimD s (by omega)
  rw [if_neg hl, hr, Jb, Qn, if_pos (fun e => bad_all h (hr2.1 e))]
theorem pn_eq (s : List UInt8) (sg : Bool) : ∃ v, Zh s sg = some (v, decide (nOk sg s)) ∧ (nOk sg s → v = numV s) := by
 unfold Zh
 cases sg
 ·rw [Jy]
  by_cases h : s.head? = some 45
  ·have : ¬ nOk false s := fun e => e.2 rfl h
   exact ⟨0, by rw [pn_bad h]; simp [this], fun e => absurd e this⟩
  ·obtain ⟨v, h1, h2⟩ := pn_j1 s
   rw [show Jbs s = s from if_neg h] at h1
   refine ⟨v, ?_, fun e => h2 e.1⟩
   rw [h1]
   congr 2
   rw [decide_eq_decide]
   exact ⟨fun e => ⟨e, fun _ => h⟩, fun e => e.1⟩
 ·rw [Qh, TrimP_eq, Jb, show (if s.head? = some 45 then s.tail else s) = Jbs s from rfl]
  obtain ⟨v, h1, h2⟩ := pn_j1 s
  refine ⟨v, ?_, fun e => h2 e.1⟩
  rw [h1]
  congr 2
  rw [decide_eq_decide]
  exact ⟨fun e => ⟨e, fun h => by cases h⟩, fun e => e.1⟩
theorem wh_eq (s : List UInt8) (sg : Bool) : ∃ v, Jcl s 10 sg = some (v, decide (nOk sg s)) ∧ (nOk sg s → v = numV s) := by
 unfold Jcl
 cases sg
 ·rw [Jy]
  by_cases h : s.head? = some 45
  ·have : ¬ nOk false s := fun e => e.2 rfl h
   exact ⟨0, by rw [wh_bad h]; simp [this], fun e => absurd e this⟩
  ·obtain ⟨v, h1, h2⟩ := wh_j1 s
   rw [show Jbs s = s from if_neg h] at h1
   refine ⟨v, ?_, fun e => h2 e.1⟩
   rw [h1]
   congr 2
   rw [decide_eq_decide]
   exact ⟨fun e => ⟨e, fun _ => h⟩, fun e => e.1⟩
 ·rw [Qh, TrimP_eq, Jb, show (if s.head? = some 45 then s.tail else s) = Jbs s from rfl]
  obtain ⟨v, h1, h2⟩ := wh_j1 s
  refine ⟨v, ?_, fun e => h2 e.1⟩
  rw [h1]
  congr 2
  rw [decide_eq_decide]
  exact ⟨fun e => ⟨e, fun h => by cases h⟩, fun e => e.1⟩
def hxD : List UInt8 := [48, 49, 50, 51, 52, 53, 54, 55, 56, 57, 97, 98, 99, 100, 101, 102]
theorem and15 : ∀ n : Nat, n < 256 → wU8 (bAnd 8 (n : Int) 15) = ((n % 16 : Nat) : Int) := by decide +kernel
theorem or16 : ∀ a : Nat, a < 16 → ∀ b : Nat, b < 16 → wI64 (bOr 64 ((a : Int) * 16) (b : Int)) = 16 * (a : Int) + (b : Int) := by decide +kernel
theorem shr4 (n : Nat) : gShr 8 (n : Int) 4 = some ((n / 16 : Nat) : Int) := by
 unfold gShr
 rw [if_pos (by omega)]
 rfl
def hx2 (c : UInt8) : List UInt8 := [hxD.getD (c.toNat / 16) 0, hxD.getD (c.toNat % 16) 0]
def Jdn (s : List UInt8) : List UInt8 := s.flatMap hx2
theorem hx_at {k : Nat} (h : k < 16) : Xy hxD (k : Int) = some ((hxD.getD k 0).toNat : Int) := by
 rw [Jai (show k < hxD.length from h)]
 congr 2
 rw [List.getD_eq_getElem?_getD, List.getElem?_eq_getElem (show k < hxD.length from h)]; rfl
theorem hx_cut {k : Nat} (h : k < 16) : Xx hxD (k : Int) ((k : Int) + 1) = some [hxD.getD k 0] := by
 have hl : hxD.length = 16 := rfl
 rw [Jht (by rw [hl]; omega), show ((k : Int) + 1).toNat - (k : Int).toNat = 1 from by omega, Int.toNat_natCast, List.drop_eq_getElem_cons (show k < hxD.length from h)]
 rw [List.getD_eq_getElem?_getD, List.getElem?_eq_getElem (show k < hxD.length from h)]; rfl
theorem hex_eq {s : List UInt8} (hs : s.length ≤ 2000000) : Jji s = some (Jdn s) := by
 unfold Jji
 have key := fix_way (F := fun next2 (s_1 : Int × List UInt8) => Ja6 s next2 s_1.1 s_1.2) (o := some (Jdn s)) (fun k => ((k : Int), Jdn (s.take k))) s.length (fun k hk next => ?_) (fun next => ?_)
 ·exact key
 ·show Ja6 s next (k : Int) (Jdn (s.take k)) = next (((k + 1 : Nat) : Int), Jdn (s.take (k + 1)))
  have hc := s[k].toNat_lt
  have hlen : (Jdn (s.take k)).length = 2 * k := by
   unfold Jdn
   rw [List.length_flatMap, show (fun a => (hx2 a).length) = (fun _ => 2) from rfl]
   rw [List.map_const', List.sum_replicate_nat, List.length_take]; omega
  unfold Ja6
  rw [Qn, if_pos (by omega), Jai hk, Jb, shr4, Jb]
  rw [show Xy ([48, 49, 50, 51, 52, 53, 54, 55, 56, 57, 97, 98, 99, 100, 101, 102] : List UInt8) ((s[k].toNat / 16 : Nat) : Int) = _ from hx_at (by omega), Jb]
  have b1 := (hxD.getD (s[k].toNat / 16) 0).toNat_lt
  have b2 := (hxD.getD (s[k].toNat % 16) 0).toNat_lt
  rw [gBldB_ok ⟨by omega, by omega, by omega⟩, Jb, Jb, and15 _ (by omega)]
  rw [show Xy ([48, 49, 50, 51, 52, 53, 54, 55, 56, 57, 97, 98, 99, 100, 101, 102] : List UInt8) ((s[k].toNat % 16 : Nat) : Int) = _ from hx_at (by omega), Jb]
  rw [gBldB_ok ⟨by omega, by omega, by rw [List.length_append, List.length_singleton]; omega⟩, Jb, J7 (by omega), Jb]
  congr 2
  unfold Jdn
  rw [List.take_add_one, List.getElem?_eq_getElem hk, List.flatMap_append]
  simp [hx2]
 ·show Ja6 s next (s.length : Int) (Jdn (s.take s.length)) = _
  unfold Ja6 Jho
  rw [Qn, if_neg (by omega), List.take_length]
theorem base16_eq {s : List UInt8} (hs : s.length ≤ 2000000) : Jh8 s = some (Jdn s) := by
 unfold Jh8
 have key := fix_way (F := fun next1 (s_1 : List UInt8 × Int) => U3 s next1 s_1.1 s_1.2) (o := some (Jdn s)) (fun k => (Jdn (s.take k), (k : Int))) s.length (fun k hk next => ?_) (fun next => ?_)
 ·exact key
 ·show U3 s next (Jdn (s.take k)) (k : Int) = next (Jdn (s.take (k + 1)), ((k + 1 : Nat) : Int))
  have hc := s[k].toNat_lt
  have hlen : (Jdn (s.take k)).length = 2 * k := by
   unfold Jdn
   rw [List.length_flatMap, show (fun a => (hx2 a).length) = (fun _ => 2) from rfl]
   rw [List.map_const', List.sum_replicate_nat, List.length_take]; omega
  unfold U3
  rw [Qn, if_pos (by omega), Jai hk, Jb, shr4, Jb, Jb, shr4, Jb, wU8_in (by omega)]
  rw [show Xx ([48, 49, 50, 51, 52, 53, 54, 55, 56, 57, 97, 98, 99, 100, 101, 102] : List UInt8) ((s[k].toNat / 16 : Nat) : Int) (((s[k].toNat / 16 : Nat) : Int) + 1) = _ from hx_cut (by omega), Jb, Jb, Jb, and15 _ (by omega), wU8_in (by omega)]
  rw [show Xx ([48, 49, 50, 51, 52, 53, 54, 55, 56, 57, 97, 98, 99, 100, 101, 102] : List UInt8) ((s[k].toNat % 16 : Nat) : Int) (((s[k].toNat % 16 : Nat) : Int) + 1) = _ from hx_cut (by omega), Jb]
  rw [Xb (by simp), Jb, Xb (by simp; omega), Jb, J7 (by omega), Jb]
  congr 2
  unfold Jdn
  rw [List.take_add_one, List.getElem?_eq_getElem hk, List.flatMap_append]
  simp [hx2]
 ·show U3 s next (Jdn (s.take s.length)) (s.length : Int) = _
  unfold U3
  rw [Qn, if_neg (by omega), List.take_length]
theorem Jip (c : UInt8) : ∃ i : Int, Jv [48, 49, 50, 51, 52, 53, 54, 55, 56, 57, 97, 98, 99, 100, 101, 102] (c.toNat : Int) = some i ∧ (i < 0 ∨ ∃ k : Nat, k < 16 ∧ i = (k : Int)) := by
 refine ⟨ixB hxD c, ?_, ?_⟩
 ·unfold Jv Q4
  rw [show ([48, 49, 50, 51, 52, 53, 54, 55, 56, 57, 97, 98, 99, 100, 101, 102] : List UInt8) = hxD from rfl, Jks, Jb, Jb]
 ·have h := Jhu c hxD
  have hl := cutS_len c hxD
  have h16 : hxD.length = 16 := rfl
  by_cases hc : (Qk c hxD).2.2 = true
  ·rw [if_pos hc] at h
   have := congrArg List.length (Ua hc)
   rw [List.length_append, List.length_cons] at this
   exact .inr ⟨_, by omega, h⟩
  ·rw [if_neg hc] at h
   exact .inl (by omega)
theorem hex_step (next : List UInt8 × List Int → Option (List UInt8 × Bool)) (x : List UInt8) (l : List Int) : Q2 next x l = Jbv next x l := by
 unfold Q2 Jbv
 rw [Qn, Qn]
 by_cases h : 2 ≤ (x.length : Int)
 ·rw [if_pos h, if_pos h]
  obtain ⟨a, b, y, rfl⟩ : ∃ a b y, x = a :: b :: y := by
   match x, h with
   | [], h => simp at h
   | [a], h => simp at h
   | a :: b :: y, _ => exact ⟨a, b, y, rfl⟩
  have e0 : Xy (a :: b :: y) 0 = some (a.toNat : Int) := Jai (k := 0) (by simp)
  have e1 : Xy (a :: b :: y) 1 = some (b.toNat : Int) := Jai (k := 1) (by simp)
  obtain ⟨i, hi, hi2⟩ := Jip a
  obtain ⟨j, hj, hj2⟩ := Jip b
  rw [e0, Jb, Jb, hi, Jb, Jb, e1, Jb, Jb, hj, Jb, Jb]
  rcases hi2 with h1 | ⟨m, hm, rfl⟩
  ·rw [cY h1, cY h1]
  rcases hj2 with h2 | ⟨n, hn, rfl⟩
  ·rw [cN (show ¬ ((m : Int) < 0) by omega), cN (show ¬ ((m : Int) < 0) by omega), cY h2, cY h2]
  rw [cN (show ¬ ((m : Int) < 0) by omega), cN (show ¬ ((m : Int) < 0) by omega), cN (show ¬ ((n : Int) < 0) by omega), cN (show ¬ ((n : Int) < 0) by omega)]
  have s4 : gShl (m : Int) 4 = some ((m : Int) * 16) := by
   unfold gShl
   rw [if_pos (by omega), show (2 : Int) ^ (4 : Int).toNat = 16 from rfl]
   exact J7 (by omega)
  rw [s4, Jb, or16 m hm n hn, J7 (by omega), Jb, J7 (by omega), Jb]
 ·rw [if_neg h, if_neg h]; rfl
theorem Jjy (s : List UInt8) (hs : s.length ≤ 2000000) : ∃ r : List UInt8 × Bool, r.1.length ≤ 2000000 ∧ Uv s = some r ∧ Jej s = some r := by
 have he : Jej s = Uv s := by
  unfold Uv Jej
  exact congrFun (fix_congr fun next a => (hex_step next a.1 a.2).symm) _
 rw [he]
 have : ∃ r : List UInt8 × Bool, Uv s = some r ∧ r.1.length ≤ 2000000 := by
  unfold Uv
  refine Jig (fun a => a.1.length + a.2.length ≤ 2000000) (fun a => a.1.length) (fun (r : List UInt8 × Bool) => r.1.length ≤ 2000000) ?_ (s, []) (by simpa using hs)
  rintro ⟨x, l⟩ hI
  simp only at hI
  by_cases h : 2 ≤ (x.length : Int)
  ·obtain ⟨a, b, y, rfl⟩ : ∃ a b y, x = a :: b :: y := by
    match x, h with
    | [], h => simp at h
    | [a], h => simp at h
    | a :: b :: y, _ => exact ⟨a, b, y, rfl⟩
   have e0 : Xy (a :: b :: y) 0 = some (a.toNat : Int) := Jai (k := 0) (by simp)
   have e1 : Xy (a :: b :: y) 1 = some (b.toNat : Int) := Jai (k := 1) (by simp)
   obtain ⟨i, hi, hi2⟩ := Jip a
   obtain ⟨j, hj, hj2⟩ := Jip b
   rcases hi2 with h1 | ⟨m, hm, rfl⟩
   ·refine .inl ⟨([], false), by simp, fun next => ?_⟩
    show Q2 next (a :: b :: y) l = _
    unfold Q2
    rw [Qn, if_pos h, e0, Jb, hi, Jb, e1, Jb, hj, Jb, Qn, if_pos h1]
   rcases hj2 with h2 | ⟨n, hn, rfl⟩
   ·refine .inl ⟨([], false), by simp, fun next => ?_⟩
    show Q2 next (a :: b :: y) l = _
    unfold Q2
    rw [Qn, if_pos h, e0, Jb, hi, Jb, e1, Jb, hj, Jb, Qn, if_neg (by omega), Qn, if_pos h2]
   rw [List.length_cons, List.length_cons] at hI
   refine .inr ⟨(y, l ++ [wU8 (16 * (m : Int) + n)]), by show y.length + (l ++ [_]).length ≤ _; rw [List.length_append, List.length_singleton]; omega, by show y.length < y.length + 1 + 1; omega, fun next => ?_⟩
   show Q2 next (a :: b :: y) l = _
   have s4 : gShl (m : Int) 4 = some ((m : Int) * 16) := by
    unfold gShl
    rw [if_pos (by omega), show (2 : Int) ^ (4 : Int).toNat = 16 from rfl]
    exact J7 (by omega)
   unfold Q2
   rw [Qn, if_pos h, e0, Jb, hi, Jb, e1, Jb, hj, Jb, Qn, if_neg (by omega), Qn, if_neg (by omega), s4, Jb, or16 m hm n hn, Yk (by rw [List.length_singleton]; omega), Jb, V6 (by simp only [List.length_cons]; omega), Jb]
   rfl
  ·refine .inl ⟨(Jaz l, decide (x = [])), by unfold Jaz; rw [List.length_map]; omega, fun next => ?_⟩
   show Q2 next x l = _
   unfold Q2 Jd1
   rw [Qn, if_neg h]
 obtain ⟨r, h1, h2⟩ := this
 exact ⟨r, h2, h1, h1⟩
end Go.M

namespace Go.M
open Go.Md Go.Pl
def Z3 (k : Int) : List UInt8 := if k = 1 then [98, 121, 116, 101] else if k = 2 then [97, 115, 99, 105, 105] else if k = 3 then [115, 104, 111, 114, 116] else if k = 4 then [108, 111, 110, 103] else if k = 5 then [114, 97, 116, 105, 111] else if k = 7 then [111, 112, 97, 113, 117, 101] else [115, 105, 103, 110, 101, 100]
theorem Jjf (k : Int) : Jgh k = some (Z3 k) := by
 unfold Jgh Z3
 rw [cI, cI, cI, cI, cI, cI]
 (repeat' split) <;> rfl
def KW : List (Int × List UInt8) := [(1, Z3 1), (2, Z3 2), (3, Z3 3), (4, Z3 4), (5, Z3 5), (7, Z3 7), (9, Z3 9)]
theorem kw_eq : Z2 = some KW := by rfl
theorem kw_get {k : Int} (h : k = 1 ∨ k = 2 ∨ k = 3 ∨ k = 4 ∨ k = 5 ∨ k = 7 ∨ k = 9) : (mGet KW k).getD [] = Z3 k := by
 rcases h with h | h | h | h | h | h | h <;> subst h <;> rfl
theorem Jkm (k : Int) : (Z3 k).length ≤ 6 := by
 unfold Z3
 (repeat' split) <;> simp
theorem Jcn {n : Int} (h : -10000000000 < n ∧ n < 10000000000) : (Wq n).length ≤ 11 := by
 unfold Wq
 split
 ·have := decD_len n.natAbs 9 (by show _ < 10 ^ 10; omega)
  rw [List.length_cons]; omega
 ·have := decD_len n.toNat 9 (by show _ < 10 ^ 10; omega)
  omega
theorem Jdg {n : Int} (h : -10000000000 < n ∧ n < 10000000000) : Y8 n = some (Wq n) := if_pos (by omega)
def ratW (r : Tc) : List UInt8 := (Wq r.Num ++ [47]) ++ Wq r.Den
def sm (n : Int) : Prop := -10000000000 < n ∧ n < 10000000000
structure okT (v : Tb) : Prop where
 b : vB v
 ints : ∀ n ∈ v.kaf, sm n
 rats : ∀ r ∈ v.kac, sm r.Num ∧ sm r.Den
theorem vt5 {v : Tb} (h : okT v) {l0 : List (List UInt8)} (hl : l0.length ≤ 10) : Yz (fun next5 (s : Int × List (List UInt8)) => Yt v next5 s.1 s.2) (0, l0) = V5 v (l0 ++ v.kaf.map Wq) := by
 have hb := h.b.2.1
 rw [← Jfb]
 refine Jfa (F := fun next5 (s : Int × List (List UInt8)) => Yt v next5 s.1 s.2) v.kaf (fun l n => l ++ [Wq n]) (fun l => V5 v l) (fun k l => l.length ≤ 10 + k) (fun next k s hk hI => ?_) (fun next s hI => ?_) l0 hl
 ·refine ⟨?_, by show (s ++ [_]).length ≤ _; rw [List.length_append, List.length_singleton]; omega⟩
  show Yt v next (k : Int) s = _
  unfold Yt
  rw [cI, if_pos (by omega), Qs hk, Jb, Jdg (h.ints _ (List.getElem_mem hk)), Jb, Yk (by rw [List.length_singleton]; omega), Jb, J7 (by omega), Jb]
 ·show Yt v next (v.kaf.length : Int) s = _
  unfold Yt
  rw [cI, if_neg (by omega)]
theorem vt4 {v : Tb} (h : okT v) {l0 : List (List UInt8)} (hl : l0.length ≤ 2000010) : V5 v l0 = Z7 v (l0 ++ v.kac.map ratW) := by
 have hb := h.b.2.2
 unfold V5
 rw [← Jfb]
 refine Jfa (F := fun next4 (s : Int × List (List UInt8)) => Zo v next4 s.1 s.2) v.kac (fun l n => l ++ [ratW n]) (fun l => Z7 v l) (fun k l => l.length ≤ 2000010 + k) (fun next k s hk hI => ?_) (fun next s hI => ?_) l0 hl
 ·refine ⟨?_, by show (s ++ [_]).length ≤ _; rw [List.length_append, List.length_singleton]; omega⟩
  show Zo v next (k : Int) s = _
  obtain ⟨h1, h2⟩ := h.rats _ (List.getElem_mem hk)
  have l1 := Jcn h1
  have l2 := Jcn h2
  unfold Zo
  rw [cI, if_pos (by omega), Qs hk, Jb, Jdg h1, Jb, Xb (by rw [List.length_singleton]; omega), Jb, Jdg h2, Jb, Xb (by rw [List.length_append, List.length_singleton]; omega), Jb, Yk (by rw [List.length_singleton]; omega), Jb, J7 (by omega), Jb]
  rfl
 ·show Zo v next (v.kac.length : Int) s = _
  unfold Zo
  rw [cI, if_neg (by omega)]
theorem rt5 {v : Tb} (h : okT v) {l0 : List (List UInt8)} (hl : l0.length ≤ 10) : Uu v l0 = V2 v (l0 ++ v.kaf.map Wq) := by
 have hb := h.b.2.1
 unfold Uu
 rw [← Jfb]
 refine Jfa (F := fun next5 (s : Int × List (List UInt8)) => Zn v next5 s.1 s.2) v.kaf (fun l n => l ++ [Wq n]) (fun l => V2 v l) (fun k l => l.length ≤ 10 + k) (fun next k s hk hI => ?_) (fun next s hI => ?_) l0 hl
 ·refine ⟨?_, by show (s ++ [_]).length ≤ _; rw [List.length_append, List.length_singleton]; omega⟩
  show Zn v next (k : Int) s = _
  unfold Zn
  rw [cI, if_pos (by omega), Qs hk, Jb, Jdg (h.ints _ (List.getElem_mem hk)), Jb, Yk (by rw [List.length_singleton]; omega), Jb, J7 (by omega), Jb]
 ·show Zn v next (v.kaf.length : Int) s = _
  unfold Zn
  rw [cI, if_neg (by omega)]
theorem rt4 {v : Tb} (h : okT v) {l0 : List (List UInt8)} (hl : l0.length ≤ 2000010) : V2 v l0 = V3 (l0 ++ v.kac.map ratW) := by
 have hb := h.b.2.2
 unfold V2
 rw [← Jfb]
 refine Jfa (F := fun next4 (s : Int × List (List UInt8)) => Zl v next4 s.1 s.2) v.kac (fun l n => l ++ [ratW n]) (fun l => V3 l) (fun k l => l.length ≤ 2000010 + k) (fun next k s hk hI => ?_) (fun next s hI => ?_) l0 hl
 ·refine ⟨?_, by show (s ++ [_]).length ≤ _; rw [List.length_append, List.length_singleton]; omega⟩
  show Zl v next (k : Int) s = _
  obtain ⟨h1, h2⟩ := h.rats _ (List.getElem_mem hk)
  have l1 := Jcn h1
  have l2 := Jcn h2
  unfold Zl
  rw [cI, if_pos (by omega), Qs hk, Jb, Jdg h1, Jb, Xb (by rw [List.length_singleton]; omega), Jb, Jdg h2, Jb, Xb (by rw [List.length_append, List.length_singleton]; omega), Jb, Yk (by rw [List.length_singleton]; omega), Jb, J7 (by omega), Jb]
  rfl
 ·show Zl v next (v.kac.length : Int) s = _
  unfold Zl
  rw [cI, if_neg (by omega)]
theorem inter_len {B : Nat} : ∀ l : List (List UInt8), (∀ x ∈ l, x.length ≤ B) → (([32] : List UInt8).intercalate l).length ≤ l.length * (B + 1)
 | [], _ => by simp [List.intercalate]
 | [x], h => by
  have := h x (by simp)
  simp [List.intercalate]; omega
 | x :: y :: l, h => by
  have h1 := h x (by simp)
  have h2 := inter_len (y :: l) (fun z hz => h z (List.mem_cons_of_mem _ hz))
  have e : ([32] : List UInt8).intercalate (x :: y :: l) = x ++ ([32] ++ ([32] : List UInt8).intercalate (y :: l)) := by
   simp [List.intercalate, List.intersperse]
  rw [e, List.length_append, List.length_append, List.length_singleton, List.length_cons, Nat.succ_mul]
  omega
theorem join_ok {l : List (List UInt8)} (h1 : l.length ≤ 6000000) (h2 : ∀ x ∈ l, x.length ≤ 4000000) : ∃ s, Jev l [32] = some s := by
 have := inter_len l h2
 have h3 : l.length * (4000000 + 1) ≤ 6000000 * (4000000 + 1) := Nat.mul_le_mul_right _ h1
 exact ⟨_, if_pos ⟨by omega, by omega⟩⟩
theorem Jkk (s : List UInt8) : (Jdn s).length = 2 * s.length := by
 unfold Jdn
 rw [List.length_flatMap, show (fun a => (hx2 a).length) = (fun _ => 2) from rfl]
 rw [List.map_const', List.sum_replicate_nat]; omega
theorem text_sim {v : Tb} (hb : vB v) (hv : Jcp v = 0) (h13 : v.kad ≠ 13) : ∃ s, Ue v = some s ∧ Jar v = some s := by
 unfold Jcp at hv
 have hf : Yj v = 0 := by
  by_cases h : Yj v = 0
  ·exact h
  ·rw [if_pos h] at hv; exact hv
 rw [if_neg (show ¬ Yj v ≠ 0 from fun h => h hf)] at hv
 have hi : ∀ n ∈ v.kaf, ¬ (n < (Jet v.kad).1 ∨ (Jet v.kad).2 < n) := by
  intro n hn hx
  rw [if_pos ⟨n, hn, hx⟩] at hv; omega
 rw [if_neg (fun ⟨n, hn, hx⟩ => hi n hn hx)] at hv
 have hr : ∀ r ∈ v.kac, ¬ ratP r := by
  intro r hr hx
  rw [if_pos ⟨r, hr, hx⟩] at hv; omega
 have hk : Jcv v.kad ∧ ¬ Jf7 v := by
  unfold Yj at hf
  by_cases h1 : Jcv v.kad
  ·rw [if_neg (show ¬ ¬ Jcv v.kad from fun h => h h1)] at hf
   refine ⟨h1, fun h2 => ?_⟩
   rw [if_pos h2] at hf; omega
  ·rw [if_pos h1] at hf; omega
 have hw : v.kad = 1 ∨ v.kad = 2 ∨ v.kad = 3 ∨ v.kad = 4 ∨ v.kad = 5 ∨ v.kad = 7 ∨ v.kad = 9 := by
  have := hk.1; unfold Jcv Jbo Wp at this; omega
 have h : okT v := by
  refine ⟨hb, fun n hn => ?_, fun r hm => ?_⟩
  ·have := hi n hn
   unfold Jet at this
   unfold sm
   (repeat' split at this) <;> omega
  ·have := hr r hm
   unfold ratP at this
   unfold sm; omega
 have hwl := Jkm v.kad
 have hbi := hb.2.1
 have hbr := hb.2.2
 have hall : ∀ L : List (List UInt8), (∀ x ∈ L, x = Z3 v.kad ∨ x = Jdn v.kae ∨ x ∈ v.kaf.map Wq ∨ x ∈ v.kac.map ratW) → ∀ x ∈ L, x.length ≤ 4000000 := by
  intro L hL x hx
  rcases hL x hx with e | e | e | e
  ·rw [e]; omega
  ·rw [e, Jkk]; have := hb.1; omega
  ·obtain ⟨n, hn, rfl⟩ := List.mem_map.1 e
   have := Jcn (h.ints n hn); omega
  ·obtain ⟨r, hn, rfl⟩ := List.mem_map.1 e
   have h1 := Jcn (h.rats r hn).1
   have h2 := Jcn (h.rats r hn).2
   unfold ratW
   rw [List.length_append, List.length_append, List.length_singleton]; omega
 by_cases ht : v.kae = []
 ·obtain ⟨s, hs⟩ := join_ok (l := ([Z3 v.kad] ++ v.kaf.map Wq) ++ v.kac.map ratW) (by simp; omega) (hall _ (fun x hx => by
   simp only [List.mem_append, List.mem_singleton] at hx
   rcases hx with (h | h) | h
   ·exact .inl h
   ·exact .inr (.inr (.inl h))
   ·exact .inr (.inr (.inr h))))
  refine ⟨s, ?_, ?_⟩
  ·unfold Ue
   rw [Jjf, Jb, vt5 h (by simp), vt4 h (by simp; omega)]
   unfold Z7 V7
   rw [cI, if_neg (by simpa using ht), hs, Jb]
  ·unfold Jar
   rw [kw_eq, Jb, cI, if_neg (by simpa using ht), kw_get hw, rt5 h (by simp), rt4 h (by simp; omega)]
   unfold V3
   rw [hs, Jb]
 ·have htk : Wp v.kad := by
   by_cases h : Wp v.kad
   ·exact h
   ·exact absurd (.inr (.inl ⟨h, ht⟩)) hk.2
  have hin : v.kaf = [] := by
   by_cases h : v.kaf = []
   ·exact h
   ·exact absurd (.inl ⟨by unfold Wp at htk; unfold Jbo; omega, h⟩) hk.2
  have hrn : v.kac = [] := by
   by_cases h : v.kac = []
   ·exact h
   ·exact absurd (.inr (.inr (.inl ⟨by unfold Wp at htk; omega, h⟩))) hk.2
  obtain ⟨s, hs⟩ := join_ok (l := [Z3 v.kad] ++ [Jdn v.kae]) (by simp) (hall _ (fun x hx => by
   simp only [List.mem_append, List.mem_singleton] at hx
   rcases hx with h | h
   ·exact .inl h
   ·exact .inr (.inl h)))
  refine ⟨s, ?_, ?_⟩
  ·unfold Ue
   rw [Jjf, Jb, vt5 h (by simp), vt4 h (by rw [hin]; simp), hin, hrn]
   unfold Z7 V7
   rw [cI, if_pos ht, hex_eq hb.1, Jb]
   simp only [List.map_nil, List.append_nil]
   rw [Yk (by simp), Jb, hs, Jb]
  ·unfold Jar
   rw [kw_eq, Jb, cI, if_pos ht, base16_eq hb.1, Jb, kw_get hw, Yk (by simp), Jb, rt5 h (by simp), rt4 h (by rw [hin]; simp), hin, hrn]
   unfold V3
   simp only [List.map_nil, List.append_nil]
   rw [hs, Jb]
end Go.M

namespace Go.M
open Go.Md Go.Pl
def Ux (w : List UInt8) : Int := if Z3 1 = w then 1 else if Z3 2 = w then 2 else if Z3 3 = w then 3 else if Z3 4 = w then 4 else if Z3 5 = w then 5 else if Z3 7 = w then 7 else if Z3 9 = w then 9 else 0
theorem kind_step (w : List UInt8) (next : Int → Option Int) {i : Nat} {k : Int} (hi : i < 7) (hk : ([1, 2, 3, 4, 5, 7, 9] : List Int)[i]? = some k) : Zr w next (i : Int) = if Z3 k = w then some k else next ((i : Int) + 1) := by
 unfold Zr
 have : Yv ([1, 2, 3, 4, 5, 7, 9] : List Int) (i : Int) = some k := by unfold Yv; rw [if_pos (by omega), Int.toNat_natCast]; exact hk
 rw [cI, if_pos (by omega), this, Jb, Jjf, Jb, cI, J7 (by omega), Jb]
theorem kindOf_eq (w : List UInt8) : Jfl w = some (Ux w) := by
 unfold Jfl Ux
 have st : ∀ (i : Nat) (k : Int) (o : Option Int), i < 7 → ([1, 2, 3, 4, 5, 7, 9] : List Int)[i]? = some k → (Z3 k ≠ w → Yz (fun next1 s => Zr w next1 s) ((i : Int) + 1) = o) → Yz (fun next1 s => Zr w next1 s) (i : Int) = if Z3 k = w then some k else o := by
  intro i k o hi hk ho
  by_cases h : Z3 k = w
  ·rw [if_pos h]
   exact Ql fun next => (kind_step w next hi hk).trans (if_pos h)
  ·rw [if_neg h, ← ho h]
   exact X2 _ fun next => (kind_step w next hi hk).trans (if_neg h)
 have e7 : Yz (fun next1 s => Zr w next1 s) (7 : Int) = some 0 := Ql fun next => by
  show Zr w next 7 = _
  unfold Zr
  rw [cI, if_neg (by omega)]
 refine (st 0 1 _ (by omega) rfl fun _ => (st 1 2 _ (by omega) rfl fun _ => (st 2 3 _ (by omega) rfl fun _ => (st 3 4 _ (by omega) rfl fun _ => (st 4 5 _ (by omega) rfl fun _ => (st 5 7 _ (by omega) rfl fun _ => (st 6 9 _ (by omega) rfl fun _ => e7))))))).trans ?_
 (repeat' split) <;> rfl
theorem kw_kind {w : List UInt8} : (∀ p ∈ KW, p.2 = w → p.1 = Ux w) ∧ (Ux w = 0 ∨ (Ux w, w) ∈ KW) := by
 have key : ∀ p ∈ KW, Ux p.2 = p.1 := by decide
 refine ⟨fun p hp e => by rw [← e]; exact (key p hp).symm, ?_⟩
 unfold Ux
 by_cases h : Z3 1 = w
 ·rw [if_pos h, ← h]; exact .inr (by decide)
 rw [if_neg h]; clear h
 by_cases h : Z3 2 = w
 ·rw [if_pos h, ← h]; exact .inr (by decide)
 rw [if_neg h]; clear h
 by_cases h : Z3 3 = w
 ·rw [if_pos h, ← h]; exact .inr (by decide)
 rw [if_neg h]; clear h
 by_cases h : Z3 4 = w
 ·rw [if_pos h, ← h]; exact .inr (by decide)
 rw [if_neg h]; clear h
 by_cases h : Z3 5 = w
 ·rw [if_pos h, ← h]; exact .inr (by decide)
 rw [if_neg h]; clear h
 by_cases h : Z3 7 = w
 ·rw [if_pos h, ← h]; exact .inr (by decide)
 rw [if_neg h]; clear h
 by_cases h : Z3 9 = w
 ·rw [if_pos h, ← h]; exact .inr (by decide)
 rw [if_neg h]; exact .inl rfl
theorem kindW_in (w : List UInt8) : Ux w = 0 ∨ Ux w = 1 ∨ Ux w = 2 ∨ Ux w = 3 ∨ Ux w = 4 ∨ Ux w = 5 ∨ Ux w = 7 ∨ Ux w = 9 := by
 unfold Ux
 (repeat' split) <;> omega
theorem word_range {t : List (List UInt8)} {w : List UInt8} (hw : Yv t 0 = some w) {r : Tb × Int} (hr : Ja5 t (Ux w) = some r) : Yz (fun next8 (s : Int × List (Int × List UInt8)) => Uk t next8 s.1 s.2) (0, KW) = some r := by
 refine fix_of (fun _ => some r) (fun s : Int × List (Int × List UInt8) => (∀ p ∈ s.2, p ∈ KW) ∧ (s.1 = Ux w ∨ (s.1 = 0 ∧ ∃ q ∈ s.2, q.2 = w))) (fun s => s.2.length) ?_ (0, KW) ⟨fun _ h => h, ?_⟩
 ·rintro next ⟨m, rs⟩ ⟨h1, h2⟩ ih
  simp only at h1 h2 ih
  show Uk t next m rs = some r
  unfold Uk
  by_cases h0 : rs = []
  ·subst h0
   have hm : m = Ux w := by
    rcases h2 with h | ⟨_, q, hq, _⟩
    ·exact h
    ·cases hq
   show J2 false _ _ = _
   rw [Jy, hm, hr]
  ·have hne : (!rs.isEmpty) = true := by simpa using h0
   rw [hne, Qh]
   refine gAll_ok (fun p l' hp => ?_) h0
   have hlt : l'.length < rs.length := by have := hp.len; omega
   have hperm := hp.perm
   have hsub : ∀ x ∈ l', x ∈ KW := fun x hx => h1 x (hp.sub x hx)
   rw [hw, Jb, cI]
   by_cases hpw : p.2 = w
   ·rw [if_pos hpw]
    exact ih (p.1, l') ⟨hsub, .inl (kw_kind.1 p (h1 p hp.mem) hpw)⟩ hlt
   ·rw [if_neg hpw]
    refine ih (m, l') ⟨hsub, ?_⟩ hlt
    rcases h2 with h | ⟨h, q, hq, hqw⟩
    ·exact .inl h
    ·refine .inr ⟨h, q, ?_, hqw⟩
     rcases List.mem_cons.1 (hperm.mem_iff.1 hq) with h | h
     ·exact absurd (by rw [← h]; exact hqw) hpw
     ·exact h
 ·rcases kw_kind (w := w) |>.2 with h | h
  ·exact .inl h.symm
  ·exact .inr ⟨rfl, _, h, rfl⟩
def v0 : Tb := ⟨0, [], [], [], []⟩
noncomputable def rtT (x : List UInt8) : Tc × Bool := (Jav x).getD (⟨0, 0⟩, false)
noncomputable def pnT (sg : Bool) (x : List UInt8) : Int × Bool := (Zh x sg).getD (0, false)
noncomputable def whT (sg : Bool) (x : List UInt8) : Int × Bool := (Jcl x 10 sg).getD (0, false)
theorem Jbp (sg : Bool) (x : List UInt8) : Zh x sg = some (pnT sg x) ∧ Jcl x 10 sg = some (whT sg x) ∧ (pnT sg x).2 = (whT sg x).2 ∧ ((pnT sg x).2 = true → (pnT sg x).1 = (whT sg x).1) := by
 obtain ⟨a, h1, h2⟩ := pn_eq x sg
 obtain ⟨b, h3, h4⟩ := wh_eq x sg
 unfold pnT whT
 rw [h1, h3]
 refine ⟨rfl, rfl, rfl, fun h => ?_⟩
 have := of_decide_eq_true h
 show a = b
 rw [h2 this, h4 this]
noncomputable def rr (x : List UInt8) : Tc := ⟨(whT false (Qk 47 x).1).1, (whT false (Qk 47 x).2.1).1⟩
theorem Jii {x : List UInt8} (hx : x.length ≤ 2000000) : Jav x = some (rtT x) ∧ ((rtT x).2 = ((Qk 47 x).2.2 && (whT false (Qk 47 x).1).2 && (whT false (Qk 47 x).2.1).2)) ∧ ((rtT x).2 = true → (rtT x).1 = rr x) := by
 obtain ⟨a1, a2, a3, a4⟩ := Jbp false (Qk 47 x).1
 obtain ⟨b1, b2, b3, b4⟩ := Jbp false (Qk 47 x).2.1
 have e : Jav x = some ((⟨(pnT false (Qk 47 x).1).1, (pnT false (Qk 47 x).2.1).1⟩ : Tc), (Qk 47 x).2.2 && (pnT false (Qk 47 x).1).2 && (pnT false (Qk 47 x).2.1).2) := by
  unfold Jav
  rw [Jfr (by omega), Jb, a1, Jb, b1, Jb]
  cases (Qk 47 x).2.2 <;> cases (pnT false (Qk 47 x).1).2 <;> rfl
 have e2 : rtT x = ((⟨(pnT false (Qk 47 x).1).1, (pnT false (Qk 47 x).2.1).1⟩ : Tc), (Qk 47 x).2.2 && (pnT false (Qk 47 x).1).2 && (pnT false (Qk 47 x).2.1).2) := by
  unfold rtT; rw [e]; rfl
 rw [e2]
 refine ⟨e, by show _ = _; rw [a3, b3], fun h => ?_⟩
 simp only [Bool.and_eq_true] at h
 show (⟨_, _⟩ : Tc) = ⟨_, _⟩
 rw [a4 h.1.2, b4 h.2]
theorem tag_words {K : Int} {ws : List (List UInt8)} (hl : ws.length ≤ 2000000) (hx : ∀ x ∈ ws, x.length ≤ 2000000) (h5 : K = 5) :
  Yz (fun next3 (s : Int × List Int × List Tc) => Qo K ws next3 s.1 s.2.1 s.2.2) (0, ([] : List Int), ([] : List Tc)) = some (if ∀ x ∈ ws, (rtT x).2 = true then ((⟨K, [], [], ws.map fun x => (rtT x).1, []⟩ : Tb), true) else (v0, false)) := by
 have key : ∀ m i : Nat, i + m = ws.length → (∀ x ∈ ws.take i, (rtT x).2 = true) → Yz (fun next3 (s : Int × List Int × List Tc) => Qo K ws next3 s.1 s.2.1 s.2.2) ((i : Int), ([] : List Int), (ws.take i).map fun x => (rtT x).1) = some (if ∀ x ∈ ws, (rtT x).2 = true then ((⟨K, [], [], ws.map fun x => (rtT x).1, []⟩ : Tb), true) else (v0, false)) := by
  intro m
  induction m with
  | zero =>
   intro i hi hp
   have : i = ws.length := by omega
   subst this
   rw [List.take_length] at hp ⊢
   rw [if_pos hp]
   refine Ql fun next => ?_
   show Qo K ws next (ws.length : Int) [] _ = _
   unfold Qo Jbg
   rw [cI, if_neg (by omega)]
  | succ m ih =>
   intro i hi hp
   have hlt : i < ws.length := by omega
   have hxi := hx _ (List.getElem_mem hlt)
   obtain ⟨r1, r2, r3⟩ := Jii hxi
   have hlen : ((ws.take i).map fun x => (rtT x).1).length = i := by rw [List.length_map, List.length_take]; omega
   by_cases hok : (rtT ws[i]).2 = true
   ·have ht : (ws.take (i + 1)).map (fun x => (rtT x).1) = ((ws.take i).map fun x => (rtT x).1) ++ [(rtT ws[i]).1] := by
     rw [List.take_add_one, List.getElem?_eq_getElem hlt, List.map_append]; rfl
    have := ih (i + 1) (by omega) (by
     intro x hx'
     rw [List.take_add_one, List.getElem?_eq_getElem hlt] at hx'
     rcases List.mem_append.1 hx' with h | h
     ·exact hp x h
     ·have : x = ws[i] := by simpa using h
      rw [this]; exact hok)
    rw [ht] at this
    rw [← this]
    refine X2 _ fun next => ?_
    show Qo K ws next (i : Int) [] _ = _
    unfold Qo Vb
    rw [cI, if_pos (by omega), Qs hlt, Jb, cI, if_pos h5, r1, Jb, Yk (by rw [hlen, List.length_singleton]; omega), Jb, hok]
    show J2 false _ _ = _
    rw [Jy, J7 (by omega), Jb]
    rfl
   ·rw [if_neg (fun h => hok (h _ (List.getElem_mem hlt)))]
    refine Ql fun next => ?_
    show Qo K ws next (i : Int) [] _ = _
    unfold Qo Vb
    have hf : (rtT ws[i]).2 = false := by simpa using hok
    rw [cI, if_pos (by omega), Qs hlt, Jb, cI, if_pos h5, r1, Jb, Yk (by rw [hlen, List.length_singleton]; omega), Jb, hf]
    rfl
 exact key ws.length 0 (by omega) (by simp)
theorem tag_ints {K : Int} {ws : List (List UInt8)} (hl : ws.length ≤ 2000000) (h5 : K ≠ 5) :
  Yz (fun next3 (s : Int × List Int × List Tc) => Qo K ws next3 s.1 s.2.1 s.2.2) (0, ([] : List Int), ([] : List Tc)) = some (if ∀ x ∈ ws, (pnT (decide (K = 9)) x).2 = true then ((⟨K, [], ws.map fun x => (pnT (decide (K = 9)) x).1, [], []⟩ : Tb), true) else (v0, false)) := by
 generalize hg : decide (K = 9) = sg
 have key : ∀ m i : Nat, i + m = ws.length → (∀ x ∈ ws.take i, (pnT sg x).2 = true) → Yz (fun next3 (s : Int × List Int × List Tc) => Qo K ws next3 s.1 s.2.1 s.2.2) ((i : Int), (ws.take i).map (fun x => (pnT sg x).1), ([] : List Tc)) = some (if ∀ x ∈ ws, (pnT sg x).2 = true then ((⟨K, [], ws.map fun x => (pnT sg x).1, [], []⟩ : Tb), true) else (v0, false)) := by
  intro m
  induction m with
  | zero =>
   intro i hi hp
   have : i = ws.length := by omega
   subst this
   rw [List.take_length] at hp ⊢
   rw [if_pos hp]
   refine Ql fun next => ?_
   show Qo K ws next (ws.length : Int) _ [] = _
   unfold Qo Jbg
   rw [cI, if_neg (by omega)]
  | succ m ih =>
   intro i hi hp
   have hlt : i < ws.length := by omega
   obtain ⟨r1, _⟩ := Jbp sg ws[i]
   have hlen : ((ws.take i).map fun x => (pnT sg x).1).length = i := by rw [List.length_map, List.length_take]; omega
   by_cases hok : (pnT sg ws[i]).2 = true
   ·have ht : (ws.take (i + 1)).map (fun x => (pnT sg x).1) = ((ws.take i).map fun x => (pnT sg x).1) ++ [(pnT sg ws[i]).1] := by
     rw [List.take_add_one, List.getElem?_eq_getElem hlt, List.map_append]; rfl
    have := ih (i + 1) (by omega) (by
     intro x hx'
     rw [List.take_add_one, List.getElem?_eq_getElem hlt] at hx'
     rcases List.mem_append.1 hx' with h | h
     ·exact hp x h
     ·have : x = ws[i] := by simpa using h
      rw [this]; exact hok)
    rw [ht] at this
    rw [← this]
    refine X2 _ fun next => ?_
    show Qo K ws next (i : Int) _ [] = _
    unfold Qo Vb
    rw [cI, if_pos (by omega), Qs hlt, Jb, cI, if_neg h5, hg, r1, Jb, Yk (by rw [hlen, List.length_singleton]; omega), Jb, hok]
    show J2 false _ _ = _
    rw [Jy, J7 (by omega), Jb]
    rfl
   ·rw [if_neg (fun h => hok (h _ (List.getElem_mem hlt)))]
    refine Ql fun next => ?_
    show Qo K ws next (i : Int) _ [] = _
    unfold Qo Vb
    have hf : (pnT sg ws[i]).2 = false := by simpa using hok
    rw [cI, if_pos (by omega), Qs hlt, Jb, cI, if_neg h5, hg, r1, Jb, Yk (by rw [hlen, List.length_singleton]; omega), Jb, hf]
    rfl
 exact key ws.length 0 (by omega) (by simp)
theorem R_ratios {K : Int} {ws : List (List UInt8)} (hl : ws.length ≤ 2000000) (hx : ∀ x ∈ ws, x.length ≤ 2000000) (ok0 : Bool) :
  Yz (fun next4 (s : Bool × Int × List Tc) => Zu K ws next4 s.1 s.2.1 s.2.2) (ok0, 0, ([] : List Tc)) = Xt K (ok0 && ws.all fun x => (rtT x).2) [] [] (ws.map rr) := by
 have key : ∀ m i : Nat, i + m = ws.length → Yz (fun next4 (s : Bool × Int × List Tc) => Zu K ws next4 s.1 s.2.1 s.2.2) ((ok0 && (ws.take i).all fun x => (rtT x).2), (i : Int), (ws.take i).map rr) = Xt K (ok0 && ws.all fun x => (rtT x).2) [] [] (ws.map rr) := by
  intro m
  induction m with
  | zero =>
   intro i hi
   have : i = ws.length := by omega
   subst this
   rw [List.take_length]
   refine Ql fun next => ?_
   show Zu K ws next _ (ws.length : Int) _ = _
   unfold Zu
   rw [cI, if_neg (by omega)]
  | succ m ih =>
   intro i hi
   have hlt : i < ws.length := by omega
   have hxi := hx _ (List.getElem_mem hlt)
   obtain ⟨r1, r2, r3⟩ := Jii hxi
   obtain ⟨_, a2, _⟩ := Jbp false (Qk 47 ws[i]).1
   obtain ⟨_, b2, _⟩ := Jbp false (Qk 47 ws[i]).2.1
   have hlen : ((ws.take i).map rr).length = i := by rw [List.length_map, List.length_take]; omega
   rw [← ih (i + 1) (by omega), List.take_add_one, List.getElem?_eq_getElem hlt, List.all_append, List.map_append]
   generalize (ws.take i).all (fun x => (rtT x).2) = al
   refine X2 _ fun next => ?_
   show Zu K ws next _ (i : Int) _ = next ((ok0 && (al && [ws[i]].all fun x => (rtT x).2)), ((i + 1 : Nat) : Int), (ws.take i).map rr ++ [ws[i]].map rr)
   have e5 : ∀ b, V9 (i : Int) ((ws.take i).map rr) next (whT false (Qk 47 ws[i]).1) (whT false (Qk 47 ws[i]).2.1) b = next (b, (i : Int) + 1, (ws.take i).map rr ++ [rr ws[i]]) := fun b => by
    unfold V9
    rw [Yk (by rw [hlen, List.length_singleton]; omega), Jb, J7 (by omega), Jb]; rfl
   unfold Zu
   rw [cI, if_pos (by omega), Qs hlt, Jb, Jfr (by omega), Jb, a2, Jb, b2, Jb, e5, e5]
   have hr : [ws[i]].all (fun x => (rtT x).2) = (rtT ws[i]).2 := by simp
   rw [hr, r2]
   cases ok0 <;> cases al <;> cases (Qk 47 ws[i]).2.2 <;> cases (whT false (Qk 47 ws[i]).1).2 <;> rfl
 have := key ws.length 0 (by omega)
 simpa using this
theorem R_ints {K : Int} {ws : List (List UInt8)} (hl : ws.length ≤ 2000000) (ok0 : Bool) :
  Yz (fun next6 (s : Bool × Int × List Int) => Zw K ws next6 s.1 s.2.1 s.2.2) (ok0, 0, ([] : List Int)) = Xt K (ok0 && ws.all fun x => (whT (decide (K = 9)) x).2) [] (ws.map fun x => (whT (decide (K = 9)) x).1) [] := by
 generalize hg : decide (K = 9) = sg
 have key : ∀ m i : Nat, i + m = ws.length → Yz (fun next6 (s : Bool × Int × List Int) => Zw K ws next6 s.1 s.2.1 s.2.2) ((ok0 && (ws.take i).all fun x => (whT sg x).2), (i : Int), (ws.take i).map fun x => (whT sg x).1) = Xt K (ok0 && ws.all fun x => (whT sg x).2) [] (ws.map fun x => (whT sg x).1) [] := by
  intro m
  induction m with
  | zero =>
   intro i hi
   have : i = ws.length := by omega
   subst this
   rw [List.take_length]
   refine Ql fun next => ?_
   show Zw K ws next _ (ws.length : Int) _ = _
   unfold Zw
   rw [cI, if_neg (by omega)]
  | succ m ih =>
   intro i hi
   have hlt : i < ws.length := by omega
   obtain ⟨_, a2, _⟩ := Jbp sg ws[i]
   have hlen : ((ws.take i).map fun x => (whT sg x).1).length = i := by rw [List.length_map, List.length_take]; omega
   rw [← ih (i + 1) (by omega), List.take_add_one, List.getElem?_eq_getElem hlt, List.all_append, List.map_append]
   generalize (ws.take i).all (fun x => (whT sg x).2) = al
   refine X2 _ fun next => ?_
   show Zw K ws next _ (i : Int) _ = next ((ok0 && (al && [ws[i]].all fun x => (whT sg x).2)), ((i + 1 : Nat) : Int), (ws.take i).map (fun x => (whT sg x).1) ++ [ws[i]].map fun x => (whT sg x).1)
   have e7 : ∀ b, Ja9 (i : Int) ((ws.take i).map fun x => (whT sg x).1) next (whT sg ws[i]) b = next (b, (i : Int) + 1, (ws.take i).map (fun x => (whT sg x).1) ++ [(whT sg ws[i]).1]) := fun b => by
    unfold Ja9
    rw [Yk (by rw [hlen, List.length_singleton]; omega), Jb, J7 (by omega), Jb]
   unfold Zw
   rw [cI, if_pos (by omega), Qs hlt, Jb, hg, a2, Jb, e7, e7]
   have hr : [ws[i]].all (fun x => (whT sg x).2) = (whT sg ws[i]).2 := by simp
   rw [hr]
   cases ok0 <;> cases al <;> rfl
 have := key ws.length 0 (by omega)
 simpa using this
theorem Same_v (v : Tb) (hb : vB v) (he : v.kab = []) : v.kab = [] := he
theorem copy_v (v : Tb) (hb : vB v) (he : v.kab = []) : Vw v = some v := by
 have h1 := hb.2.1
 have h2 := hb.2.2
 unfold Vw Um Zx Jam
 rw [Yk (by simp; omega), Jb, Jb, Yk (by simp; omega), Jb, Jb, he, cI, if_pos (by simp), Jb]
 obtain ⟨k, t, i, r, e⟩ := v
 simp only at he
 subst he
 rfl
theorem Jjk {K : Int} (h13 : K ≠ 13) {t : List UInt8} {li : List Int} {lr : List Tc} (hb : vB ⟨K, t, li, lr, []⟩) : ∃ r : Tb × Int,
  (Js (Up (⟨K, t, li, lr, []⟩ : Tb)) fun t33 => J2 (decide (t33 ≠ 0)) (some (v0, t33)) (Js (Vw (⟨K, t, li, lr, []⟩ : Tb)) fun t39 => some (t39, 0))) = some r ∧ Xt K true t li lr = some r ∧ r.1.kab = [] := by
 have hz : szD 5 ([] : List Ta) ≤ 2000000 := by rw [szD_nil]; omega
 rw [CV_eq (v := ⟨K, t, li, lr, []⟩) hb hz, Jb, cI]
 unfold Xt
 show ∃ r, _ ∧ J2 false _ _ = _ ∧ _
 rw [Jy, VF_plain (v := ⟨K, t, li, lr, []⟩) hb h13, Jb, cI]
 by_cases h : valE (⟨K, t, li, lr, []⟩ : Tb) ≠ 0
 ·rw [if_pos h, if_pos h]
  exact ⟨_, rfl, rfl, Same_v v0 ⟨by simp [v0], by simp [v0], by simp [v0]⟩ rfl⟩
 ·rw [if_neg h, if_neg h, copy_v _ hb rfl, Jb]
  exact ⟨_, rfl, rfl, Same_v _ hb rfl⟩
theorem Je9 {K : Int} {t : List UInt8} {li : List Int} {lr : List Tc} : Xt K false t li lr = some (v0, 8) := rfl
theorem Jf5 : v0.kab = [] := Same_v v0 ⟨by simp [v0], by simp [v0], by simp [v0]⟩ rfl
theorem text_kind (K : Int) : Jb7 K = some (decide (Wp K)) := by
 unfold Jb7 Wp
 rw [cI]
 by_cases h : K = 2
 ·simp [h]
 ·simp [h]
theorem Read_sim (s : List UInt8) : ∃ r : Tb × Int, Vu s = some r ∧ Jdo s = some r ∧ r.1.kab = [] := by
 unfold Vu Jdo
 rw [cI, cI]
 by_cases hs : 1000000 < (s.length : Int)
 ·rw [if_pos hs, if_pos hs]
  exact ⟨(v0, 4), rfl, rfl, Jf5⟩
 rw [if_neg hs, if_neg hs]
 obtain ⟨ws0, hw, hne, hl, hx⟩ := Split_ok 32 s (by omega)
 obtain ⟨w, ws, rfl⟩ := List.exists_cons_of_ne_nil hne
 have hat : Yv (w :: ws) 0 = some w := Qs (k := 0) (by simp)
 have hcut : Xx (w :: ws) 1 (w :: ws).length = some ws := by rw [V6 (by simp; omega)]; rfl
 rw [List.length_cons] at hl
 have hxs : ∀ x ∈ ws, x.length ≤ 2000000 := fun x h => by have := hx x (List.mem_cons_of_mem _ h); omega
 have hwl : ws.length ≤ 2000000 := by omega
 rw [hw, Jb, Jb, hat, Jb, kindOf_eq, Jb, kw_eq, Jb]
 have hk := kindW_in w
 suffices H : ∃ r : Tb × Int, (J2 (decide (Ux w = 0)) (some (v0, 8)) (Js (Xx (w :: ws) 1 (w :: ws).length) fun t25 => Js (Jau (Ux w) t25) fun t26 => J2 (!t26.2) (some (v0, 8)) (Js (Up t26.1) fun t33 => J2 (decide (t33 ≠ 0)) (some (v0, t33)) (Js (Vw t26.1) fun t39 => some (t39, 0))))) = some r ∧ Ja5 (w :: ws) (Ux w) = some r ∧ r.1.kab = [] by
  obtain ⟨r, h1, h2, h3⟩ := H
  exact ⟨r, h1, word_range hat h2, h3⟩
 generalize Ux w = K at hk
 unfold Ja5
 rw [hcut, Jb, Jb]
 have hj3 : J2 (decide (K = 2)) (Wk K ws (decide (K = 2))) (Wk K ws (decide (K = 7))) = Wk K ws (decide (Wp K)) := by
  rw [cI]
  unfold Wp
  by_cases h : K = 2
  ·simp [h]
  ·simp [h]
 rw [hj3]
 unfold Wk
 by_cases h0 : K = 0
 ·subst h0
  rw [cY rfl]
  have ht : decide (Wp 0) = false := by decide
  rw [ht, Jy, cI, if_neg (by omega), show decide ((0 : Int) < 0) = false from rfl, R_ints hwl, Bool.false_and, Je9]
  exact ⟨(v0, 8), rfl, rfl, Jf5⟩
 rw [cN h0]
 have hpos : decide (0 < K) = true := decide_eq_true (by omega)
 have h13 : K ≠ 13 := by omega
 unfold Jau
 rw [text_kind, Jb]
 by_cases ht : Wp K
 ·rw [decide_eq_true ht, Qh, Qh, hpos]
  match ws, hwl, hxs with
  | [], _, _ =>
   rw [cN (by simp), cN (by simp), cN (by simp)]
   unfold Va
   obtain ⟨u, u1, u2, u3⟩ := Jjy [] (by simp)
   have hu : u = ([], true) := by
    have : Uv [] = some ([], true) := by
     unfold Uv
     refine Ql fun next => ?_
     show Q2 next [] [] = _
     unfold Q2
     rw [cN (by simp)]; rfl
    rw [this] at u2; cases u2; rfl
   rw [show Jev ([] : List (List UInt8)) [] = some [] from rfl, Jb, u2, Jb, Jb, hu]
   show ∃ r, J2 false _ _ = _ ∧ _
   rw [Jy]
   exact Jjk h13 ⟨by simp, by simp, by simp⟩
  | [x], _, hxs =>
   have hxl := hxs x (by simp)
   obtain ⟨u, u1, u2, u3⟩ := Jjy x hxl
   have hl1 : (([x] : List (List UInt8)).length : Int) = 1 := by simp
   rw [cN (show ¬ (1 < (([x] : List (List UInt8)).length : Int)) by simp), cY hl1, cY (show 0 < (([x] : List (List UInt8)).length : Int) by simp), show Yv [x] 0 = some x from rfl, Jb, Jb, u3, Jb, cY hl1, Jb]
   by_cases hx0 : x = []
   ·rw [cY hx0, Jb]
    show ∃ r, J2 true _ _ = _ ∧ _
    rw [Qh, decide_eq_false (by simpa using hx0), Je9]
    refine ⟨_, rfl, ?_, Jf5⟩
    cases u.2 <;> rfl
   ·rw [cN hx0]
    unfold Va
    have hj : Jev [x] [] = some x := by
     unfold Jev
     have e : ([] : List UInt8).intercalate [x] = x := by simp [List.intercalate]
     rw [if_pos (by rw [e, List.length_singleton]; omega), e]
    rw [hj, Jb, u2, Jb, Jb, decide_eq_true hx0]
    cases hu : u.2
    ·rw [Jy, Je9]
     exact ⟨(v0, 8), rfl, rfl, Jf5⟩
    ·rw [Qh]
     show ∃ r, J2 false _ _ = _ ∧ _
     rw [Jy]
     exact Jjk h13 ⟨u1, by simp, by simp⟩
  | x :: y :: l, _, hxs =>
   obtain ⟨u, u1, u2, u3⟩ := Jjy x (hxs x (by simp))
   have hlen : ¬ (((x :: y :: l).length : Int) = 1) := by simp only [List.length_cons]; omega
   rw [cY (by simp only [List.length_cons]; omega), Jb, cY (by simp only [List.length_cons]; omega), show Yv (x :: y :: l) 0 = some x from Qs (k := 0) (by simp), Jb, u3, Jb, cN hlen, Je9]
   refine ⟨(v0, 8), rfl, ?_, Jf5⟩
   cases u.2 <;> rfl
 ·rw [decide_eq_false ht, Jy, Jy, hpos, cI]
  by_cases h5 : K = 5
  ·rw [if_pos h5, tag_words hwl hxs h5, Jb, R_ratios hwl hxs, Bool.true_and]
   by_cases hall : ∀ x ∈ ws, (rtT x).2 = true
   ·rw [if_pos hall, show (ws.all fun x => (rtT x).2) = true from List.all_eq_true.2 hall]
    have e : ws.map (fun x => (rtT x).1) = ws.map rr := List.map_congr_left fun x h => (Jii (hxs x h)).2.2 (hall x h)
    show ∃ r, J2 false _ _ = _ ∧ _
    rw [Jy, ← e]
    exact Jjk h13 ⟨by simp, by simp, by simpa using hwl⟩
   ·rw [if_neg hall, show (ws.all fun x => (rtT x).2) = false from by
     rw [Bool.eq_false_iff]; exact fun h => hall (List.all_eq_true.1 h), Je9]
    exact ⟨(v0, 8), rfl, rfl, Jf5⟩
  ·rw [if_neg h5, tag_ints hwl h5, Jb, R_ints hwl, Bool.true_and]
   have e2 : (ws.all fun x => (whT (decide (K = 9)) x).2) = (ws.all fun x => (pnT (decide (K = 9)) x).2) := by
    exact congrArg ws.all (funext fun x => (Jbp _ x).2.2.1.symm)
   rw [e2]
   by_cases hall : ∀ x ∈ ws, (pnT (decide (K = 9)) x).2 = true
   ·rw [if_pos hall, show (ws.all fun x => (pnT (decide (K = 9)) x).2) = true from List.all_eq_true.2 hall]
    have e : ws.map (fun x => (pnT (decide (K = 9)) x).1) = ws.map fun x => (whT (decide (K = 9)) x).1 := List.map_congr_left fun x h => (Jbp _ x).2.2.2 (hall x h)
    show ∃ r, J2 false _ _ = _ ∧ _
    rw [Jy, ← e]
    exact Jjk h13 ⟨by simp, by simpa using hwl, by simp⟩
   ·rw [if_neg hall, show (ws.all fun x => (pnT (decide (K = 9)) x).2) = false from by
     rw [Bool.eq_false_iff]; exact fun h => hall (List.all_eq_true.1 h), Je9]
    exact ⟨(v0, 8), rfl, rfl, Jf5⟩
end Go.M

namespace Go.M
open Go.Md Go.Pl
theorem decT {p : Prop} [Decidable p] (h : p) : decide p = true := decide_eq_true h
theorem decF {p : Prop} [Decidable p] (h : ¬ p) : decide p = false := decide_eq_false h
def Jbq (c : UInt8) : List UInt8 → List (List UInt8)
 | [] => [[]]
 | b :: l => if b = c then [] :: Jbq c l else (b :: (Jbq c l).headD []) :: (Jbq c l).tail
theorem Jgp (c b : UInt8) (l : List UInt8) : Jbq c (b :: l) = if b = c then [] :: Jbq c l else (b :: (Jbq c l).headD []) :: (Jbq c l).tail := rfl
theorem Jik (c b : UInt8) (l : List UInt8) : Qk c (b :: l) = if b = c then ([], l, true) else (b :: (Qk c l).1, (Qk c l).2.1, (Qk c l).2.2) := rfl
theorem Jeg (c : UInt8) : ∀ s, Jbq c s = (Qk c s).1 :: (if (Qk c s).2.2 = true then Jbq c (Qk c s).2.1 else [])
 | [] => rfl
 | b :: l => by
  have ih := Jeg c l
  rw [Jgp, Jik]
  by_cases hb : b = c
  ·rw [if_pos hb, if_pos hb]; rfl
  ·rw [if_neg hb, if_neg hb, ih]; rfl
theorem Jjx (c : UInt8) (s : List UInt8) : s.count c = if (Qk c s).2.2 = true then (Qk c s).2.1.count c + 1 else 0 := by
 induction s with
 | nil => rfl
 | cons b l ih =>
  rw [Jik]
  by_cases hb : b = c
  ·rw [if_pos hb, hb, List.count_cons_self]; rfl
  ·rw [if_neg hb, List.count_cons_of_ne (by simpa using hb), ih]
theorem splitL_len (c : UInt8) (s : List UInt8) : (Jbq c s).length = s.count c + 1 := by
 generalize hn : s.length = n
 induction n using Nat.strongRecOn generalizing s with
 | ind n ih =>
  rw [Jeg, Jjx c s]
  by_cases h : (Qk c s).2.2 = true
  ·have := congrArg List.length (Ua h)
   rw [List.length_append, List.length_cons] at this
   rw [if_pos h, if_pos h, List.length_cons, ih (Qk c s).2.1.length (by omega) _ rfl]
  ·rw [if_neg h, if_neg h]; rfl
theorem Jku {α : Type} {l : List α} {k : Nat} {x : α} (h : k < l.length) : (l.set k x).take (k + 1) = l.take k ++ [x] := by
 rw [List.take_succ_eq_append_getElem (by rw [List.length_set]; exact h), List.take_set_of_le (Nat.le_refl _), List.getElem_set_self]
theorem gen_loop (c : UInt8) (a2 : Nat) (ha : a2 ≤ 1) (n : Nat) (hn : n ≤ 2000000) (P : List UInt8 → List (List UInt8))
  (hP : ∀ x, P x = if (Qk c x).2.2 = true then x.take ((Qk c x).1.length + a2) :: P (Qk c x).2.1 else [x]) :
  ∀ (m k : Nat) (x : List UInt8) (l : List (List UInt8)), x.length ≤ m → x.length ≤ 2000000 → l.length = n + 1 → k + x.count c = n →
   Yz (fun next3 s => Qg [c] (a2 : Int) (n : Int) next3 s.1 s.2.1 s.2.2) (x, (k : Int), l) = some (l.take k ++ P x) := by
 intro m
 induction m with
 | zero =>
  intro k x l hx _ hl hk
  have : x = [] := List.length_eq_zero_iff.1 (by omega)
  subst this
  rw [hP, if_neg (fun h => by cases h)]
  have hkn : k = n := by simpa using hk
  subst hkn
  refine Ql fun next => ?_
  show Qg [c] (a2 : Int) (k : Int) next [] (k : Int) l = _
  unfold Qg Y3
  rw [decF (by omega), Jy, Qs (by omega), Jb, Jb3 (by omega) (by omega), Jb, J7 (by omega), Jb, Jbm (by rw [List.length_set]; omega), Jb, Int.toNat_natCast, show ((k : Int) + 1).toNat = k + 1 from by omega, Jku (by omega)]
 | succ m ih =>
  intro k x l hx hx2 hl hk
  have hi : Ug x [c] = some (ixB x c) := by unfold Ug; rw [Jix, Jb]
  have hix := Jhu c x
  have hct := Jjx c x
  by_cases h : (Qk c x).2.2 = true
  ·rw [if_pos h] at hix hct
   have hln := congrArg List.length (Ua h)
   rw [List.length_append, List.length_cons] at hln
   have e2 : x.drop ((Qk c x).1.length + 1) = (Qk c x).2.1 := by
    have := List.drop_left' (l₁ := (Qk c x).1 ++ [c]) (l₂ := (Qk c x).2.1) rfl
    rw [List.append_assoc, List.singleton_append, ← Ua h] at this
    simpa using this
   rw [X2 ((Qk c x).2.1, ((k + 1 : Nat) : Int), l.set k (x.take ((Qk c x).1.length + a2))) fun next => by
    show Qg [c] (a2 : Int) (n : Int) next x (k : Int) l = _
    unfold Qg
    have e1 : (([c] : List UInt8).length : Int) = 1 := rfl
    rw [decT (by omega), Qh, hi, Jb, hix, decF (by omega), Jy, J7 (by omega), Jb, Jbm (by omega), Jb, Qs (by omega), Jb, Jb3 (by omega) (by omega), Jb, e1, J7 (by omega), Jb, V6 (by omega), Jb, J7 (by omega), Jb]
    rw [show (((Qk c x).1.length : Int) + (a2 : Int)).toNat = (Qk c x).1.length + a2 from by omega, show (((Qk c x).1.length : Int) + 1).toNat = (Qk c x).1.length + 1 from by omega, Int.toNat_natCast, e2]
    rfl]
   rw [ih (k + 1) _ _ (by omega) (by omega) (by rw [List.length_set]; exact hl) (by omega), hP x, if_pos h, Jku (by omega), List.append_assoc]
   rfl
  ·rw [if_neg h] at hix hct
   have hkn : k = n := by omega
   subst hkn
   rw [hP, if_neg h]
   refine Ql fun next => ?_
   show Qg [c] (a2 : Int) (k : Int) next x (k : Int) l = _
   unfold Qg Y3
   rw [decF (by omega), Jy, Qs (by omega), Jb, Jb3 (by omega) (by omega), Jb, J7 (by omega), Jb, Jbm (by rw [List.length_set]; omega), Jb, Int.toNat_natCast, show ((k : Int) + 1).toNat = k + 1 from by omega, Jku (by omega)]
theorem Count_eq (c : UInt8) (s : List UInt8) : Jaq s [c] = some ((s.count c : Nat) : Int) := by
 unfold Jaq
 rw [Qn, if_neg (by simp), Qn, if_pos (by rfl), show Xy [c] 0 = some (c.toNat : Int) from rfl, Jb, show gCnB s (c.toNat : Int) = some ((s.count c : Nat) : Int) from by unfold gCnB; rw [Int.toNat_natCast]; simp, Jb]
theorem gen_eq (c : UInt8) (a2 : Nat) (ha : a2 ≤ 1) (s : List UInt8) (hs : s.length ≤ 1000000) (P : List UInt8 → List (List UInt8))
  (hP : ∀ x, P x = if (Qk c x).2.2 = true then x.take ((Qk c x).1.length + a2) :: P (Qk c x).2.1 else [x]) : Uo s [c] (a2 : Int) (-1) = some (P s) := by
 have hc := List.count_le_length (a := c) (l := s)
 unfold Uo
 rw [Qn, if_neg (by omega), Qn, if_neg (by simp), Qn, if_pos (by omega), Count_eq, Jb, J7 (by omega), Jb]
 unfold Vo
 rw [J7 (by omega), Jb, show min ((s.count c : Int) + 1) ((s.length : Int) + 1) = ((s.count c + 1 : Nat) : Int) from by omega, Jju (by omega), Jb, J7 (by omega), Jb, Int.toNat_natCast, show (((s.count c + 1 : Nat) : Int) - 1) = ((s.count c : Nat) : Int) from by omega]
 have := gen_loop c a2 ha (s.count c) (by omega) P hP s.length 0 s (List.replicate (s.count c + 1) []) (Nat.le_refl _) (by omega) (by simp) (by omega)
 rw [show ((0 : Nat) : Int) = 0 from rfl] at this
 rw [this]; simp
theorem take_cut {c : UInt8} {x : List UInt8} (h : (Qk c x).2.2 = true) : x.take ((Qk c x).1.length + 0) = (Qk c x).1 ∧ x.take ((Qk c x).1.length + 1) = (Qk c x).1 ++ [c] := by
 have e := Ua h
 constructor
 ·have := List.take_left' (l₁ := (Qk c x).1) (l₂ := c :: (Qk c x).2.1) rfl
  rwa [← e] at this
 ·have := List.take_left' (l₁ := (Qk c x).1 ++ [c]) (l₂ := (Qk c x).2.1) rfl
  rw [List.append_assoc, List.singleton_append, ← e] at this
  simpa using this
theorem Split_eq (c : UInt8) (s : List UInt8) (hs : s.length ≤ 1000000) : Vx s [c] = some (Jbq c s) := by
 unfold Vx
 rw [show (0 : Int) = ((0 : Nat) : Int) from rfl, gen_eq c 0 (by omega) s hs (Jbq c) (fun x => by
  rw [Jeg]
  by_cases h : (Qk c x).2.2 = true
  ·rw [if_pos h, if_pos h, (take_cut h).1]
  ·rw [if_neg h, if_neg h, cutS_no (by simpa using h)]), Jb]
theorem split_ne (c : UInt8) (s : List UInt8) : Jbq c s ≠ [] := by rw [Jeg]; simp
theorem split_mem (c : UInt8) : ∀ s, ∀ y ∈ Jbq c s, y.length ≤ s.length := by
 intro s
 generalize hn : s.length = n
 induction n using Nat.strongRecOn generalizing s with
 | ind n ih =>
  intro y hy
  rw [Jeg] at hy
  have hl := cutS_len c s
  rcases List.mem_cons.1 hy with h | h
  ·rw [h]; omega
  ·by_cases hc : (Qk c s).2.2 = true
   ·have e := congrArg List.length (Ua hc)
    rw [List.length_append, List.length_cons] at e
    rw [if_pos hc] at h
    have := ih (Qk c s).2.1.length (by omega) _ rfl y h
    omega
   ·rw [if_neg hc] at h; cases h
end Go.M

namespace Go.M
open Go.Md Go.Pl
def Jfj (v : Tb) : List (List UInt8) := Z3 v.kad :: (v.kaf.map Wq ++ (v.kac.map ratW ++ if v.kae = [] then [] else [Jdn v.kae]))
def vtS (v : Tb) : List UInt8 := ([32] : List UInt8).intercalate (Jfj v)
structure okW (v : Tb) : Prop where
 b : vB v
 t : okT v
 kind : v.kad = 1 ∨ v.kad = 2 ∨ v.kad = 3 ∨ v.kad = 4 ∨ v.kad = 5 ∨ v.kad = 7 ∨ v.kad = 9
 pos : v.kad ≠ 9 → ∀ n ∈ v.kaf, 0 ≤ n
 rat : ∀ r ∈ v.kac, 0 ≤ r.Num ∧ 0 ≤ r.Den
 form : ¬ Jf7 v
 ents : v.kab = []
theorem form_no {v : Tb} (h : Yj v = 0) : Jcv v.kad ∧ ¬ Jf7 v := by
 unfold Yj at h
 by_cases h1 : Jcv v.kad
 ·rw [if_neg (show ¬ ¬ Jcv v.kad from fun h => h h1)] at h
  refine ⟨h1, fun h2 => ?_⟩
  rw [if_pos h2] at h; omega
 ·rw [if_pos h1] at h; omega
theorem okW_of {v : Tb} (hb : vB v) (hv : Jcp v = 0) (h13 : v.kad ≠ 13) : okW v := by
 unfold Jcp at hv
 have hf : Yj v = 0 := by
  by_cases h : Yj v = 0
  ·exact h
  ·rw [if_pos h] at hv; exact hv
 rw [if_neg (show ¬ Yj v ≠ 0 from fun h => h hf)] at hv
 have hi : ∀ n ∈ v.kaf, ¬ (n < (Jet v.kad).1 ∨ (Jet v.kad).2 < n) := by
  intro n hn hx
  rw [if_pos ⟨n, hn, hx⟩] at hv; omega
 rw [if_neg (fun ⟨n, hn, hx⟩ => hi n hn hx)] at hv
 have hr : ∀ r ∈ v.kac, ¬ ratP r := by
  intro r hr hx
  rw [if_pos ⟨r, hr, hx⟩] at hv; omega
 have hk := form_no hf
 have hw : v.kad = 1 ∨ v.kad = 2 ∨ v.kad = 3 ∨ v.kad = 4 ∨ v.kad = 5 ∨ v.kad = 7 ∨ v.kad = 9 := by
  have := hk.1; unfold Jcv Jbo Wp at this; omega
 refine ⟨hb, ⟨hb, fun n hn => ?_, fun r hm => ?_⟩, hw, fun h9 n hn => ?_, fun r hm => ?_, hk.2, ?_⟩
 ·have := hi n hn
  unfold Jet at this
  unfold sm
  (repeat' split at this) <;> omega
 ·have := hr r hm
  unfold ratP at this
  unfold sm; omega
 ·have := hi n hn
  unfold Jet at this
  (repeat' split at this) <;> omega
 ·have := hr r hm
  unfold ratP at this
  omega
 ·by_cases h : v.kab = []
  ·exact h
  ·exact absurd (.inr (.inr (.inr ⟨h13, h⟩))) hk.2
theorem words_len {v : Tb} (h : okW v) : ∀ x ∈ Jfj v, x.length ≤ 4000000 := by
 have hwl := Jkm v.kad
 intro x hx
 unfold Jfj at hx
 rcases List.mem_cons.1 hx with e | hx
 ·rw [e]; omega
 rcases List.mem_append.1 hx with e | hx
 ·obtain ⟨n, hn, rfl⟩ := List.mem_map.1 e
  have := Jcn (h.t.ints n hn); omega
 rcases List.mem_append.1 hx with e | hx
 ·obtain ⟨r, hn, rfl⟩ := List.mem_map.1 e
  have h1 := Jcn (h.t.rats r hn).1
  have h2 := Jcn (h.t.rats r hn).2
  unfold ratW
  rw [List.length_append, List.length_append, List.length_singleton]; omega
 ·split at hx
  ·cases hx
  ·rw [List.mem_singleton.1 hx, Jkk]; have := h.b.1; omega
theorem text_eq {v : Tb} (h : okW v) : Ue v = some (vtS v) := by
 have hbi := h.b.2.1
 have hbr := h.b.2.2
 have hj : Jev (Jfj v) [32] = some (vtS v) := by
  obtain ⟨s, hs⟩ := join_ok (l := Jfj v) (by unfold Jfj; simp only [List.length_cons, List.length_append, List.length_map]; split <;> simp <;> omega) (words_len h)
  rw [hs]
  have hs2 := hs
  unfold Jev at hs2
  split at hs2
  ·exact hs2.symm ▸ rfl
  ·cases hs2
 unfold Ue
 rw [Jjf, Jb, vt5 h.t (by simp), vt4 h.t (by simp; omega)]
 unfold Z7 V7
 unfold Jfj at hj
 by_cases ht : v.kae = []
 ·rw [cI, if_neg (by simpa using ht)]
  rw [if_pos ht, List.append_nil] at hj
  rw [show [Z3 v.kad] ++ v.kaf.map Wq ++ v.kac.map ratW = Z3 v.kad :: (v.kaf.map Wq ++ v.kac.map ratW) from by simp, hj, Jb]
 ·rw [cI, if_pos ht, hex_eq h.b.1, Jb, Yk (by simp; omega), Jb]
  rw [if_neg ht] at hj
  rw [show [Z3 v.kad] ++ v.kaf.map Wq ++ v.kac.map ratW ++ [Jdn v.kae] = Z3 v.kad :: (v.kaf.map Wq ++ (v.kac.map ratW ++ [Jdn v.kae])) from by simp, hj, Jb]
theorem cutS_none {c : UInt8} {s : List UInt8} (h : ∀ x ∈ s, x ≠ c) : Qk c s = (s, [], false) := by
 induction s with
 | nil => rfl
 | cons b l ih => rw [Jik, if_neg (h b (by simp)), ih fun x hx => h x (List.mem_cons_of_mem _ hx)]
theorem inter_cons {c : UInt8} {x y : List UInt8} {l : List (List UInt8)} : ([c] : List UInt8).intercalate (x :: y :: l) = x ++ c :: ([c] : List UInt8).intercalate (y :: l) := by
 simp [List.intercalate, List.intersperse]
end Go.M

namespace Go.M
open Go.Md Go.Pl
def sp2 (n : Nat) : List UInt8 := (List.replicate n ([32, 32] : List UInt8)).flatten
def unl (ls : List (List UInt8)) : List UInt8 := ls.flatMap (· ++ [10])
theorem Jd8 : unl [] = [] := rfl
theorem Zb (x : List UInt8) (l : List (List UInt8)) : unl (x :: l) = x ++ 10 :: unl l := by unfold unl; simp
theorem Jcw (a b : List (List UInt8)) : unl (a ++ b) = unl a ++ unl b := by unfold unl; simp
theorem Jcu (n : Nat) : (sp2 n).length = 2 * n := by unfold sp2; rw [List.length_flatten, List.map_replicate, List.sum_replicate_nat]; simp; omega
theorem sp2_succ (n : Nat) : sp2 (n + 1) = sp2 n ++ [32, 32] := by unfold sp2; rw [List.replicate_succ', List.flatten_append]; simp
def entG (f : List Ta → List (List UInt8)) (n : Nat) (e : Ta) : List (List UInt8) :=
 if e.Value.kad ≠ 13 then [sp2 n ++ (Wq e.Tag ++ 32 :: vtS e.Value)] else (sp2 n ++ (Wq e.Tag ++ [32, 123])) :: (f e.Value.kab ++ [sp2 n ++ [125]])
def Y1 : Nat → Nat → List Ta → List (List UInt8)
 | 0, _, _ => []
 | d + 1, n, l => l.flatMap (entG (Y1 d (n + 1)) n)
theorem Jge (d n : Nat) (e : Ta) (l : List Ta) : Y1 (d + 1) n (e :: l) = entG (Y1 d (n + 1)) n e ++ Y1 (d + 1) n l := rfl
def okQ : Nat → List Ta → Prop
 | 0, _ => False
 | d + 1, l => l.length ≤ 200 ∧ ∀ e ∈ l, (0 ≤ e.Tag ∧ e.Tag ≤ 65535) ∧ (e.Value.kad ≠ 13 → Jcp e.Value = 0) ∧ (e.Value.kad = 13 → (e.Value.kae = [] ∧ e.Value.kaf = [] ∧ e.Value.kac = []) ∧ okQ d e.Value.kab)
theorem form13 {v : Tb} (h : v.kad = 13) (hf : Yj v = 0) : v.kae = [] ∧ v.kaf = [] ∧ v.kac = [] := by
 obtain ⟨_, h2⟩ := form_no hf
 refine ⟨Classical.byContradiction fun e => h2 (.inr (.inl ⟨by unfold Wp; omega, e⟩)), Classical.byContradiction fun e => h2 (.inl ⟨by unfold Jbo; omega, e⟩), Classical.byContradiction fun e => h2 (.inr (.inr (.inl ⟨by omega, e⟩)))⟩
theorem Jkn {f : Ta → Int} : ∀ {l : List Ta} {pr : Option Int}, Jgq f pr l = 0 → ∀ e ∈ l, 0 ≤ e.Tag ∧ e.Tag ≤ 65535
 | [], _, _, e, he => by cases he
 | x :: l, pr, h, e, he => by
  obtain ⟨h1, _, _, h4⟩ := listE_cons h
  rcases List.mem_cons.1 he with e1 | e1
  ·rw [e1]; exact h1
  ·exact Jkn h4 e e1
theorem dE_okQ : ∀ {d : Nat} {l : List Ta}, dE d l = 0 → okQ d l := by
 intro d
 induction d with
 | zero => intro l h; unfold dE at h; omega
 | succ d ih =>
  intro l h
  unfold dE at h
  split at h
  ·omega
  rename_i hl
  refine ⟨by omega, fun e he => ⟨Jkn h e he, fun h13 => ?_, fun h13 => ?_⟩⟩
  ·have := Jfo h e he
   rwa [if_pos h13] at this
  ·have := Jfo h e he
   rw [if_neg (fun hh => hh h13)] at this
   by_cases hf : Yj e.Value ≠ 0
   ·rw [if_pos hf] at this; exact absurd this hf
   ·rw [if_neg hf] at this
    exact ⟨form13 h13 (Classical.not_not.1 hf), ih this⟩
theorem inter_sum : ∀ l : List (List UInt8), (([32] : List UInt8).intercalate l).length ≤ (l.map fun x => x.length + 1).sum
 | [] => by simp [List.intercalate]
 | [x] => by simp [List.intercalate]
 | x :: y :: l => by
  have h2 := inter_sum (y :: l)
  rw [inter_cons, List.length_append, List.length_cons, List.map_cons, List.sum_cons]
  omega
theorem sum_le {α : Type} {B : Nat} {f : α → Nat} : ∀ {l : List α}, (∀ x ∈ l, f x ≤ B) → (l.map f).sum ≤ B * l.length
 | [], _ => by simp
 | x :: l, h => by
  have h1 := h x (by simp)
  have h2 := sum_le (l := l) fun y hy => h y (List.mem_cons_of_mem _ hy)
  rw [List.map_cons, List.sum_cons, List.length_cons, Nat.mul_succ]; omega
theorem vt_len {v : Tb} (h : okW v) : (vtS v).length ≤ 8 + 24 * (v.kae.length + v.kaf.length + v.kac.length) := by
 have h0 := inter_sum (Jfj v)
 have hw := Jkm v.kad
 have h1 : ((v.kaf.map Wq).map fun x => x.length + 1).sum ≤ 12 * v.kaf.length := by
  rw [List.map_map]
  exact sum_le fun n hn => by have := Jcn (h.t.ints n hn); show (Wq n).length + 1 ≤ 12; omega
 have h2 : ((v.kac.map ratW).map fun x => x.length + 1).sum ≤ 24 * v.kac.length := by
  rw [List.map_map]
  exact sum_le fun r hr => by
   have h1 := Jcn (h.t.rats r hr).1
   have h2 := Jcn (h.t.rats r hr).2
   show (ratW r).length + 1 ≤ 24
   unfold ratW
   rw [List.length_append, List.length_append, List.length_singleton]; omega
 have h3 : ((if v.kae = [] then [] else [Jdn v.kae] : List (List UInt8)).map fun x => x.length + 1).sum ≤ 2 * v.kae.length + 1 := by
  split
  ·simp
  ·simp [Jkk]
 unfold vtS
 unfold Jfj at h0 ⊢
 rw [List.map_cons, List.sum_cons, List.map_append, List.sum_append, List.map_append, List.sum_append] at h0
 omega
theorem tag11 {e : Ta} (h : 0 ≤ e.Tag ∧ e.Tag ≤ 65535) : sm e.Tag ∧ (Wq e.Tag).length ≤ 11 := ⟨by unfold sm; omega, Jcn (by omega)⟩
theorem szE_vB {d : Nat} {e : Ta} (h : szE d e ≤ 2000000) : vB e.Value := by unfold szE at h; exact ⟨by omega, by omega, by omega⟩
theorem ent_len {f : List Ta → List (List UInt8)} {d n : Nat} (hn : n ≤ 10) {e : Ta} (ht : 0 ≤ e.Tag ∧ e.Tag ≤ 65535) (hp : e.Value.kad ≠ 13 → Jcp e.Value = 0) (hz : szE d e ≤ 2000000) (hf : e.Value.kad = 13 → (unl (f e.Value.kab)).length ≤ 100 * szD d e.Value.kab) :
  (unl (entG f n e)).length ≤ 100 * szE d e := by
 have h1 := (tag11 ht).2
 have hs := Jcu n
 unfold entG
 by_cases h13 : e.Value.kad = 13
 ·have := hf h13
  rw [if_neg (fun h => h h13), Zb, Jcw, Zb, Jd8]
  simp only [List.length_append, List.length_cons, List.length_nil]
  unfold szE; omega
 ·have := vt_len (okW_of (szE_vB hz) (hp h13) h13)
  rw [if_pos h13, Zb, Jd8]
  simp only [List.length_append, List.length_cons, List.length_nil]
  unfold szE; omega
theorem Jcz : ∀ (d n : Nat) (l : List Ta), n + d ≤ 10 → okQ d l → szD d l ≤ 2000000 → (unl (Y1 d n l)).length ≤ 100 * szD d l := by
 intro d
 induction d with
 | zero => intro n l _ h; exact h.elim
 | succ d ih =>
  intro n l hn hq hz
  replace hq := hq.2
  induction l with
  | nil => simp [Y1, unl]
  | cons e l ihl =>
   rw [Jdk] at hz ⊢
   rw [Jge, Jcw, List.length_append]
   obtain ⟨h1, h2, h3⟩ := hq e (by simp)
   have h4 := ihl (by omega) fun x hx => hq x (List.mem_cons_of_mem _ hx)
   have hzd : szD d e.Value.kab ≤ szE d e := by unfold szE; omega
   have h5 := ent_len (f := Y1 d (n + 1)) (d := d) (n := n) (by omega) h1 h2 (by omega) fun h13 => ih (n + 1) _ (by omega) (h3 h13).2 (by omega)
   omega
theorem szD_drop {d : Nat} {l : List Ta} {k : Nat} (hk : k < l.length) : szD (d + 1) (l.drop k) = szE d l[k] + szD (d + 1) (l.drop (k + 1)) := by
 rw [List.drop_eq_getElem_cons hk, Jdk]
noncomputable abbrev dirTF : (List UInt8 × List Ta × List UInt8 → Option (List UInt8)) → List UInt8 × List Ta × List UInt8 → Option (List UInt8) := fun self s => Yu self s.1 s.2.1 s.2.2
theorem dir_text : ∀ (d k : Nat), d < k → ∀ (n : Nat) (l : List Ta) (m : List UInt8), n + d ≤ 10 → okQ d l → szD d l ≤ 2000000 → m.length + 100 * szD d l ≤ 100000000000 → it dirTF k (m, l, sp2 n) = some (m ++ unl (Y1 d n l)) := by
 intro d
 induction d with
 | zero => intro k _ n l m _ h; exact h.elim
 | succ d ih =>
  intro k hk n l m hn hq hz hm
  cases k with
  | zero => omega
  | succ k =>
  show Yu (it dirTF k) m l (sp2 n) = _
  have hsp := Jcu n
  obtain ⟨hl, hq⟩ := hq
  unfold Yu
  have key := Jfa (F := fun next1 (s : Int × List UInt8) => Vf l (sp2 n) (it dirTF k) next1 s.1 s.2) l (fun m e => m ++ unl (entG (Y1 d (n + 1)) n e)) (fun m => some m) (fun k s => s.length + 100 * szD (d + 1) (l.drop k) ≤ 100000000000) (fun next i s hi hI => ?_) (fun next s hI => ?_) m hm
  ·rw [key]
   have fold : ∀ (l : List Ta) (m : List UInt8), l.foldl (fun m e => m ++ unl (entG (Y1 d (n + 1)) n e)) m = m ++ unl (Y1 (d + 1) n l) := by
    intro l
    induction l with
    | nil => intro m; simp [Y1, unl]
    | cons e l ihl => intro m; rw [List.foldl_cons, ihl, Jge, Jcw, List.append_assoc]
   rw [fold]
  ·obtain ⟨h1, h2, h3⟩ := hq _ (List.getElem_mem hi)
   obtain ⟨t1, t2⟩ := tag11 h1
   have hze := Jh3 (d := d) (List.getElem_mem hi)
   have hel := ent_len (f := Y1 d (n + 1)) (d := d) (n := n) (by omega) h1 h2 (by omega) fun h13 => Jcz d (n + 1) _ (by omega) (h3 h13).2 (by unfold szE at hze; omega)
   rw [szD_drop hi] at hI
   refine ⟨?_, by show (s ++ _).length + _ ≤ _; rw [List.length_append]; omega⟩
   show Vf l (sp2 n) (it dirTF k) next (i : Int) s = _
   unfold Vf
   rw [cI, if_pos (by omega), Qs hi, Jb, Jdg t1, Jb, Xb (by omega), Jb, Xb (by rw [List.length_append, List.length_singleton]; omega), Jb, Jf6 ⟨by simp, by simp only [List.length_append, List.length_singleton]; omega⟩, Jb, cI]
   by_cases h13 : l[i].Value.kad = 13
   ·rw [if_neg (fun h => h h13), Jf6 ⟨by simp, by simp only [List.length_append, List.length_singleton, List.length_cons, List.length_nil]; omega⟩, Jb, Xb (by simp only [List.length_cons, List.length_nil]; omega), Jb, ← sp2_succ]
    have hzd : szD d l[i].Value.kab ≤ szE d l[i] := by unfold szE; omega
    have hin := Jcz d (n + 1) _ (by omega) (h3 h13).2 (by omega)
    rw [ih k (by omega) (n + 1) _ _ (by omega) (h3 h13).2 (by omega) (by
     simp only [List.length_append, List.length_singleton, List.length_cons, List.length_nil]
     unfold szE at hI
     have : 100 * (1 + l[i].Value.kae.length + l[i].Value.kaf.length + l[i].Value.kac.length + szD d l[i].Value.kab) = 100 + 100 * (l[i].Value.kae.length + l[i].Value.kaf.length + l[i].Value.kac.length) + 100 * szD d l[i].Value.kab := by omega
     omega), Jb, Xb (by simp only [List.length_cons, List.length_nil]; omega), Jb, Jf6 ⟨by simp, by
     simp only [List.length_append, List.length_singleton, List.length_cons, List.length_nil]; omega⟩, Jb]
    unfold Jbe
    rw [J7 (by omega), Jb]
    congr 2
    unfold entG
    rw [if_neg (fun h => h h13), Zb, Jcw, Zb, Jd8]
    simp
   ·have hv := okW_of (szE_vB (d := d) (by omega)) (h2 h13) h13
    have hvl := vt_len hv
    have hsz : 24 * (l[i].Value.kae.length + l[i].Value.kaf.length + l[i].Value.kac.length) ≤ 24 * 2000000 := by unfold szE at hze; omega
    rw [if_pos h13, text_eq hv, Jb, Xb (by rw [List.length_singleton]; omega), Jb, Jf6 ⟨by simp, by
     simp only [List.length_append, List.length_singleton, List.length_cons, List.length_nil]; omega⟩, Jb]
    unfold Jbe
    rw [J7 (by omega), Jb]
    congr 2
    unfold entG
    rw [if_pos h13, Zb, Jd8]
    simp
  ·show Vf l (sp2 n) (it dirTF k) next (l.length : Int) s = _
   unfold Vf
   rw [cI, if_neg (by omega)]
def hdL (big : Bool) : List UInt8 := if big then [98, 105, 103] else [108, 105, 116, 116, 108, 101]
def linesF (f : Td) : List (List UInt8) := hdL f.Big :: f.kag.flatMap fun l => [100, 105, 114] :: Y1 5 1 l
noncomputable def Jgb (f : Td) : List UInt8 := unl (linesF f)
theorem Text_eq {f : Td} (hb : Je1 f) (he : Jcd f = 0) : Jek f = some (if 1000000 < (Jgb f).length then ([], 4) else (Jgb f, 0)) := by
 obtain ⟨h20, hdirs, _⟩ := Jhg he
 have j1 : ∀ m : List UInt8, m.length ≤ 10 → Jdl f m = Jcg (m ++ unl (f.kag.flatMap fun l => [100, 105, 114] :: Y1 5 1 l)) := by
  intro m hm
  unfold Jdl
  have key := Jfa (F := fun next3 (s : Int × List UInt8) => U0 f next3 s.1 s.2) f.kag (fun m l => m ++ unl ([100, 105, 114] :: Y1 5 1 l)) (fun m => Jcg m) (fun k s => s.length ≤ 10 + 300000000 * k) (fun next i s hi hI => ?_) (fun next s hI => ?_) m (by show m.length ≤ 10 + 300000000 * 0; omega)
  ·rw [key]
   have fold : ∀ (ls : List (List Ta)) (m : List UInt8), ls.foldl (fun m l => m ++ unl ([100, 105, 114] :: Y1 5 1 l)) m = m ++ unl (ls.flatMap fun l => [100, 105, 114] :: Y1 5 1 l) := by
    intro ls
    induction ls with
    | nil => intro m; simp [unl]
    | cons l ls ih => intro m; rw [List.foldl_cons, ih, List.flatMap_cons, Jcw, List.append_assoc]
   rw [fold]
  ·have hm2 := List.getElem_mem hi
   have hq := dE_okQ (hdirs _ hm2)
   have hz := hb.1 _ hm2
   have hlen := Jcz 5 1 _ (by omega) hq hz
   have hI' : s.length ≤ 10 + 300000000 * i := hI
   refine ⟨?_, by show (s ++ unl _).length ≤ _; rw [List.length_append, Zb, List.length_append, List.length_cons]; simp only [List.length_cons, List.length_nil]; omega⟩
   show U0 f next (i : Int) s = _
   unfold U0
   have hd : Jgg (s ++ [100, 105, 114, 10]) f.kag[i] [32, 32] = some (s ++ [100, 105, 114, 10] ++ unl (Y1 5 1 f.kag[i])) :=
    Jfp (k := 6) fun k hk => dir_text 5 k (by omega) 1 _ _ (by omega) hq hz (by simp only [List.length_append, List.length_cons, List.length_nil]; omega)
   rw [cI, if_pos (by omega), Qs hi, Jb, Jf6 ⟨by simp, by simp only [List.length_cons, List.length_nil]; omega⟩, Jb, hd, Jb, J7 (by omega), Jb]
   congr 2
   rw [Zb]; simp
  ·show U0 f next (f.kag.length : Int) s = _
   unfold U0
   rw [cI, if_neg (by omega)]
 unfold Jek
 rw [Jjv hb, Jb, he]
 show J2 (decide ((0 : Int) ≠ 0)) _ _ = _
 rw [cI, if_neg (by omega)]
 have fin : ∀ m : List UInt8, m = hdL f.Big ++ [10] → Jcg (m ++ unl (f.kag.flatMap fun l => [100, 105, 114] :: Y1 5 1 l)) = some (if 1000000 < (Jgb f).length then ([], 4) else (Jgb f, 0)) := by
  intro m hm
  have e : m ++ unl (f.kag.flatMap fun l => [100, 105, 114] :: Y1 5 1 l) = Jgb f := by
   unfold Jgb linesF; rw [Zb, hm]; simp
  rw [e]
  unfold Jcg
  rw [cI]
  by_cases h : 1000000 < (Jgb f).length
  ·rw [if_pos h, if_pos (by omega)]
  ·rw [if_neg h, if_neg (by omega)]
 cases hbig : f.Big with
 | true =>
  rw [Qh, Jf6 ⟨by simp, by simp⟩, Jb, List.nil_append, j1 _ (by simp)]
  exact fin _ (by rw [hbig]; rfl)
 | false =>
  rw [Jy, Jf6 ⟨by simp, by simp⟩, Jb, List.nil_append, j1 _ (by simp)]
  exact fin _ (by rw [hbig]; rfl)
end Go.M

namespace Go.M
open Go.Md Go.Pl
theorem Jd6 {n : Nat} (h : n ≤ 10000000) : gRep [32, 32] (n : Int) = some (sp2 n) := by
 unfold gRep
 rw [if_pos ⟨by omega, by omega, by simp; omega⟩, Int.toNat_natCast]; rfl
structure Ctx (K : List Ta → TxR) (n : Nat) : Prop where
 put : ∀ (xs : List Ta) (e : Ta), xs.length ≤ 2000000 → Jf3 (K xs) e = some (K (xs ++ [e]))
 op : ∀ xs, (K xs).op.length = n
 dirs : ∀ xs, (K xs).dirs ≠ []
theorem ctx0 (big : Bool) (ds : List (List Ta)) (hd : ds.length ≤ 2000000) : Ctx (fun xs => ⟨big, ds ++ [xs], []⟩) 0 where
 put xs e hx := by
  unfold Jf3
  rw [cI, if_neg (by simp)]
  show Js (gI (((ds ++ [xs]).length : Int) - 1)) _ = _
  rw [J7 (by simp; omega), Jb]
  show Js (Yv (ds ++ [xs]) (((ds ++ [xs]).length : Int) - 1)) _ = _
  have e1 : (((ds ++ [xs]).length : Int) - 1) = ((ds.length : Nat) : Int) := by simp
  rw [e1, Qs (by simp), Jb]
  have e2 : (ds ++ [xs])[ds.length]'(by simp) = xs := by simp
  rw [e2, Yk (by simp; omega), Jb, Jb3 (by omega) (by simp), Jb, Int.toNat_natCast]
  congr 1
  simp
 op xs := rfl
 dirs xs := by simp
theorem ctx_in {K : List Ta → TxR} {n : Nat} (h : Ctx K n) (hn : n ≤ 10000000) (xs : List Ta) (x : Ta) : Ctx (fun ys => ⟨(K xs).big, (K xs).dirs, (K xs).op ++ [W6 x ys]⟩) (n + 1) where
 put ys e hy := by
  have ho := h.op xs
  unfold Jf3
  rw [cI, if_pos (by simp)]
  show Js (gI ((((K xs).op ++ [W6 x ys]).length : Int) - 1)) _ = _
  have e1 : ((((K xs).op ++ [W6 x ys]).length : Int) - 1) = (((K xs).op.length : Nat) : Int) := by simp
  rw [e1, J7 (by omega), Jb]
  show Js (Yv ((K xs).op ++ [W6 x ys]) ((K xs).op.length : Int)) _ = _
  rw [Qs (by simp), Jb]
  have e2 : ((K xs).op ++ [W6 x ys])[(K xs).op.length]'(by simp) = W6 x ys := by simp
  rw [e2, show (W6 x ys).Value.kab = ys from rfl, Yk (by simp; omega), Jb, Jb3 (by omega) (by simp), Jb, Int.toNat_natCast]
  congr 1
  simp [W6]
 op ys := by simp [h.op xs]
 dirs ys := h.dirs xs
inductive Reads : TxR → List (List UInt8) → TxR → Prop
 | nil (r : TxR) : Reads r [] r
 | cons {r r1 r2 : TxR} {s : List UInt8} {ls : List (List UInt8)} : Zd r s = some (0, r1) → Reads r1 ls r2 → Reads r (s :: ls) r2
theorem Reads.one {r1 r2 : TxR} {s : List UInt8} (h : Zd r1 s = some (0, r2)) : Reads r1 [s] r2 := .cons h (.nil _)
theorem not_dir {n : Nat} {t : List UInt8} (h : 0 < n) : sp2 n ++ t ≠ [100, 105, 114] := by
 obtain ⟨m, rfl⟩ : ∃ m, n = m + 1 := ⟨n - 1, by omega⟩
 unfold sp2
 rw [List.replicate_succ]
 simp
theorem line_shut {K : List Ta → TxR} {n : Nat} (h : Ctx K n) (hn : n ≤ 5000000) (xs : List Ta) (hx : xs.length ≤ 2000000) (x : Ta) (ys : List Ta) :
  Zd ⟨(K xs).big, (K xs).dirs, (K xs).op ++ [W6 x ys]⟩ (sp2 (n + 1) ++ [125]) = some (0, K (xs ++ [W6 x ys])) := by
 have ho := h.op xs
 have hol : ((K xs).op ++ [W6 x ys]).length = n + 1 := by simp [ho]
 unfold Zd
 rw [decide_eq_false (not_dir (by omega)), Bool.false_and, Jy]
 unfold Jew
 rw [show (⟨(K xs).big, (K xs).dirs, (K xs).op ++ [W6 x ys]⟩ : TxR).op.length = n + 1 from hol, cI, if_pos (by omega), Jd6 (by omega), Jb, Xb (by rw [Jcu]; simp; omega), Jb, decide_eq_true rfl, Jb, Qh]
 unfold tx_shut
 rw [show (⟨(K xs).big, (K xs).dirs, (K xs).op ++ [W6 x ys]⟩ : TxR).op.length = n + 1 from hol, J7 (by omega), Jb, show (((n + 1 : Nat) : Int) - 1) = (n : Int) from by omega]
 show (Js (Yv ((K xs).op ++ [W6 x ys]) (n : Int)) fun e => Js (Xx ((K xs).op ++ [W6 x ys]) 0 (n : Int)) fun op => _) = _
 have e2 : ((K xs).op ++ [W6 x ys])[n]'(by omega) = W6 x ys := by
  subst ho
  simp
 rw [Qs (by omega), Jb, e2, Jbm (by omega), Jb, Int.toNat_natCast, List.take_left' ho]
 rw [show (⟨(K xs).big, (K xs).dirs, (K xs).op⟩ : TxR) = K xs from rfl, h.put xs _ hx, Jb]
theorem line_dir (big : Bool) (ds : List (List Ta)) (hd : ds.length ≤ 2000000) : Zd ⟨big, ds, []⟩ [100, 105, 114] = some (0, ⟨big, ds ++ [[]], []⟩) := by
 unfold Zd
 rw [decide_eq_true rfl, Bool.true_and]
 show J2 (decide ((([] : List Ta).length : Int) = 0)) _ _ = _
 rw [cI, if_pos (by simp)]
 show Js (Wz 24 ds [[]]) _ = _
 rw [Yk (by simp; omega), Jb]
theorem take_line {x : List UInt8} {rest : List UInt8} (hx : ∀ c ∈ x, c ≠ 10) (hl : (x ++ 10 :: rest).length ≤ 2000000) : Ym (x ++ 10 :: rest) [10] = some (x, rest, true) := by
 rw [Jfr (by omega), cutS_at hx]
theorem lines_le (ls : List (List UInt8)) : ls.length ≤ (unl ls).length := by
 induction ls with
 | nil => simp
 | cons x l ih => rw [Zb, List.length_append, List.length_cons, List.length_cons]; omega
theorem fits_okQ : ∀ (d : Nat) (l : List Ta), okQ d l → szD d l ≤ 2000000 → ∀ k, d < k → fits k l := by
 intro d
 induction d with
 | zero => intro l h; exact h.elim
 | succ d ih =>
  intro l hq hz k hk
  cases k with
  | zero => omega
  | succ k =>
  refine ⟨by have := hq.1; omega, fun e he => ?_⟩
  obtain ⟨h1, h2, h3⟩ := hq.2 e he
  have hze := Jh3 (d := d) he
  have hb := szE_vB (d := d) (e := e) (by omega)
  refine ⟨hb.2.1, hb.2.2, ?_⟩
  by_cases h13 : e.Value.kad = 13
  ·exact ih _ (h3 h13).2 (by unfold szE at hze; omega) k (by omega)
  ·rw [(okW_of hb (h2 h13) h13).ents]
   cases k with
   | zero => omega
   | succ k => exact ⟨by simp, by simp⟩
end Go.M

namespace Go.M
open Go.Md Go.Pl
theorem ix_zero : Jv [48, 49, 50, 51, 52, 53, 54, 55, 56, 57, 97, 98, 99, 100, 101, 102] (((0 : UInt8).toNat : Nat) : Int) = some (-1) := by
 unfold Jv Q4
 rw [show ([48, 49, 50, 51, 52, 53, 54, 55, 56, 57, 97, 98, 99, 100, 101, 102] : List UInt8) = hxD from rfl, Jks, Jb, Jb]
 rfl
theorem unhex_info (s : List UInt8) (hs : s.length ≤ 2000000) : ∃ r : List UInt8 × Bool, Uv s = some r ∧ (r.1.length ≤ s.length ∧ (s.getLast? = some 0 → r.2 = false)) := by
 unfold Uv
 refine Jig (fun a => a.1.length + a.2.length ≤ s.length ∧ (s.getLast? = some 0 → a.1.getLast? = some 0)) (fun a => a.1.length) (fun (r : List UInt8 × Bool) => r.1.length ≤ s.length ∧ (s.getLast? = some 0 → r.2 = false)) ?_ (s, []) ⟨by simp, fun h => h⟩
 rintro ⟨x, l⟩ ⟨hI, hJ⟩
 simp only at hI hJ
 by_cases h : 2 ≤ (x.length : Int)
 ·obtain ⟨a, b, y, rfl⟩ : ∃ a b y, x = a :: b :: y := by
   match x, h with
   | [], h => simp at h
   | [a], h => simp at h
   | a :: b :: y, _ => exact ⟨a, b, y, rfl⟩
  have e0 : Xy (a :: b :: y) 0 = some (a.toNat : Int) := Jai (k := 0) (by simp)
  have e1 : Xy (a :: b :: y) 1 = some (b.toNat : Int) := Jai (k := 1) (by simp)
  obtain ⟨i, hi, hi2⟩ := Jip a
  obtain ⟨j, hj, hj2⟩ := Jip b
  rcases hi2 with h1 | ⟨m, hm, rfl⟩
  ·refine .inl ⟨([], false), ⟨by simp, fun _ => rfl⟩, fun next => ?_⟩
   show Q2 next (a :: b :: y) l = _
   unfold Q2
   rw [Qn, if_pos h, e0, Jb, hi, Jb, e1, Jb, hj, Jb, Qn, if_pos h1]
  rcases hj2 with h2 | ⟨n, hn, rfl⟩
  ·refine .inl ⟨([], false), ⟨by simp, fun _ => rfl⟩, fun next => ?_⟩
   show Q2 next (a :: b :: y) l = _
   unfold Q2
   rw [Qn, if_pos h, e0, Jb, hi, Jb, e1, Jb, hj, Jb, Qn, if_neg (by omega), Qn, if_pos h2]
  rw [List.length_cons, List.length_cons] at hI
  refine .inr ⟨(y, l ++ [wU8 (16 * (m : Int) + n)]), ⟨by show y.length + (l ++ [_]).length ≤ _; rw [List.length_append, List.length_singleton]; omega, fun h0 => ?_⟩, by show y.length < y.length + 1 + 1; omega, fun next => ?_⟩
  ·have := hJ h0
   cases y with
   | nil =>
    exfalso
    have hb : b = 0 := by simpa using this
    rw [hb, ix_zero] at hj
    have := Option.some.inj hj
    omega
   | cons z y => simpa using this
  show Q2 next (a :: b :: y) l = _
  have s4 : gShl (m : Int) 4 = some ((m : Int) * 16) := by
   unfold gShl
   rw [if_pos (by omega), show (2 : Int) ^ (4 : Int).toNat = 16 from rfl]
   exact J7 (by omega)
  unfold Q2
  rw [Qn, if_pos h, e0, Jb, hi, Jb, e1, Jb, hj, Jb, Qn, if_neg (by omega), Qn, if_neg (by omega), s4, Jb, or16 m hm n hn, Yk (by rw [List.length_singleton]; omega), Jb, V6 (by simp only [List.length_cons]; omega), Jb]
  rfl
 ·refine .inl ⟨(Jaz l, decide (x = [])), ⟨by show (Jaz l).length ≤ _; unfold Jaz; rw [List.length_map]; omega, fun h0 => ?_⟩, fun next => ?_⟩
  ·have := hJ h0
   show decide (x = []) = false
   rw [decide_eq_false_iff_not]
   rintro rfl
   simp at this
  ·show Q2 next x l = _
   unfold Q2 Jd1
   rw [Qn, if_neg h]
theorem dg_zero : dg 0 = false := by decide
theorem n_zero {sg : Bool} {x : List UInt8} : ¬ nOk sg (x ++ [0]) := by
 rintro ⟨⟨_, _, h3, _⟩, _⟩
 have hm : (0 : UInt8) ∈ Jbs (x ++ [0]) := by
  unfold Jbs
  split
  ·rename_i h
   cases x with
   | nil => simp at h
   | cons c l => simp
  ·simp
 have := List.all_eq_true.1 h3 0 hm
 rw [dg_zero] at this
 cases this
theorem pn_zero {sg : Bool} {x : List UInt8} : (pnT sg (x ++ [0])).2 = false := by
 obtain ⟨v, h1, _⟩ := pn_eq (x ++ [0]) sg
 unfold pnT
 rw [h1, Option.getD_some, decide_eq_false n_zero]
theorem wh_zero {sg : Bool} {x : List UInt8} : (whT sg (x ++ [0])).2 = false := by rw [← (Jbp sg (x ++ [0])).2.2.1]; exact pn_zero
theorem last_of {a b u : List UInt8} {c : UInt8} (h : a ++ c :: b = u ++ [0]) (hc : c ≠ 0) : ∃ v, b = v ++ [0] ∧ u = a ++ c :: v := by
 rcases List.eq_nil_or_concat b with rfl | ⟨v, y, rfl⟩
 ·have := (List.append_inj' h rfl).2
  simp at this
  exact absurd this hc
 ·rw [List.concat_eq_append] at h ⊢
  rw [show a ++ c :: (v ++ [y]) = (a ++ c :: v) ++ [y] from by simp] at h
  have h2 := List.append_inj' h rfl
  simp only [List.cons.injEq, and_true] at h2
  exact ⟨v, by rw [h2.2], h2.1.symm⟩
theorem rt_zero {x : List UInt8} (hx : (x ++ [0]).length ≤ 2000000) : (rtT (x ++ [0])).2 = false := by
 obtain ⟨_, h2, _⟩ := Jii hx
 rw [h2]
 cases hc : (Qk 47 (x ++ [0])).2.2 with
 | false => rfl
 | true =>
  obtain ⟨v, hv, _⟩ := last_of (Ua hc).symm (by decide)
  rw [hv, wh_zero, Bool.and_false]
theorem Jjt : ∀ u : List UInt8, ∃ ws x, Jbq 32 (u ++ [0]) = ws ++ [x ++ [0]] ∧ x.length ≤ u.length
 | [] => ⟨[], [], rfl, by simp⟩
 | b :: u => by
  obtain ⟨ws, x, h, hl⟩ := Jjt u
  rw [List.cons_append, Jgp, h]
  by_cases hb : b = 32
  ·rw [if_pos hb]; exact ⟨[] :: ws, x, rfl, by simp; omega⟩
  ·rw [if_neg hb]
   cases ws with
   | nil => exact ⟨[], b :: x, rfl, by simp; omega⟩
   | cons w ws => exact ⟨(b :: w) :: ws, x, rfl, by simp; omega⟩
theorem kind_zero {x : List UInt8} : Ux (x ++ [0]) = 0 := by
 rcases (kw_kind (w := x ++ [0])).2 with h | h
 ·exact h
 ·exfalso
  have key : ∀ p ∈ KW, (0 : UInt8) ∉ p.2 := by decide
  exact key _ h (by simp)
theorem readWords_eq {K : Int} {ws : List (List UInt8)} (hl : ws.length ≤ 2000000) (hx : ∀ x ∈ ws, x.length ≤ 1000001) :
  ∃ t : Tb × Bool, Jau K ws = some t ∧ (t.2 = true → t.1.kae.length ≤ (ws.headD []).length ∧ t.1.kaf.length + t.1.kac.length ≤ ws.length ∧ t.1.kab = [] ∧ (t.1.kae = [] ∨ (t.1.kaf = [] ∧ t.1.kac = []))) ∧ ((∃ w x, ws = w ++ [x ++ [0]]) → t.2 = false) := by
 unfold Jau
 rw [text_kind, Jb, cI]
 by_cases htk : Wp K
 ·rw [if_pos htk, cI]
  by_cases h1 : (1 : Int) < ws.length
  ·rw [if_pos h1]; exact ⟨_, rfl, fun h => Bool.noConfusion h, fun _ => rfl⟩
  ·rw [if_neg h1, cI]
   have j1 : ∀ y : List UInt8, Jev ws [] = some y → y.length ≤ 1000001 → y.length ≤ (ws.headD []).length → ((∃ w x, ws = w ++ [x ++ [0]]) → y.getLast? = some 0) → ∃ t : Tb × Bool, Va K ws = some t ∧ (t.2 = true → t.1.kae.length ≤ (ws.headD []).length ∧ t.1.kaf.length + t.1.kac.length ≤ ws.length ∧ t.1.kab = [] ∧ (t.1.kae = [] ∨ (t.1.kaf = [] ∧ t.1.kac = []))) ∧ ((∃ w x, ws = w ++ [x ++ [0]]) → t.2 = false) := by
    intro y hy hyl hyh hz
    obtain ⟨r, r1, r2, r3⟩ := unhex_info y (by omega)
    unfold Va
    rw [hy, Jb, r1, Jb]
    exact ⟨_, rfl, fun _ => ⟨by show r.1.length ≤ _; omega, by simp, rfl, .inr ⟨rfl, rfl⟩⟩, fun h => r3 (hz h)⟩
   cases ws with
   | nil =>
    rw [if_neg (by simp)]
    exact j1 [] rfl (by simp) (by simp) (fun ⟨w, x, h⟩ => by simp at h)
   | cons y l =>
    have hlz : l = [] := List.length_eq_zero_iff.1 (by rw [List.length_cons] at h1; omega)
    subst hlz
    rw [if_pos (by simp), show Yv [y] 0 = some y from rfl, Jb, cI]
    have hy := hx y (by simp)
    split
    ·exact ⟨_, rfl, fun h => Bool.noConfusion h, fun _ => rfl⟩
    ·refine j1 y ?_ hy (by simp) (fun ⟨w, x, h⟩ => ?_)
     ·unfold Jev
      have e : ([] : List UInt8).intercalate [y] = y := by simp [List.intercalate]
      rw [e, if_pos (by simp; omega)]
     ·cases w with
      | nil => have : y = x ++ [0] := by simpa using h
               rw [this]; simp
      | cons a w => simp at h
 ·rw [if_neg htk]
  by_cases h5 : K = 5
  ·rw [tag_words hl (fun x h => by have := hx x h; omega) h5]
   refine ⟨_, rfl, fun h => ?_, fun ⟨w, x, h⟩ => ?_⟩
   ·split
    ·simp
    ·rename_i hn; rw [if_neg hn] at h; cases h
   ·rw [if_neg (fun hh => ?_)]
    have := hh (x ++ [0]) (by rw [h]; simp)
    rw [rt_zero (by have := hx (x ++ [0]) (by rw [h]; simp); omega)] at this
    cases this
  ·rw [tag_ints hl h5]
   refine ⟨_, rfl, fun h => ?_, fun ⟨w, x, h⟩ => ?_⟩
   ·split
    ·simp
    ·rename_i hn; rw [if_neg hn] at h; cases h
   ·rw [if_neg (fun hh => ?_)]
    have := hh (x ++ [0]) (by rw [h]; simp)
    rw [pn_zero] at this
    cases this
theorem Jga (b : List UInt8) (hb : b.length ≤ 1000000) : ∃ v : Tb × Int, Vu b = some v ∧ Jdo b = some v ∧ v.1.kab = [] ∧ v.1.kae.length + v.1.kaf.length + v.1.kac.length ≤ b.length + 1 ∧ ((∃ u, b = u ++ [0]) → v.2 = 8) := by
 obtain ⟨v, h1, h2, h3⟩ := Read_sim b
 refine ⟨v, h1, h2, h3, ?_⟩
 clear h2
 unfold Vu at h1
 rw [cI, if_neg (by omega), Split_eq 32 b hb, Jb] at h1
 have hne := split_ne 32 b
 have hlen := splitL_len 32 b
 have hct := List.count_le_length (a := (32 : UInt8)) (l := b)
 have hmem := split_mem 32 b
 obtain ⟨w, ws, hw⟩ := List.exists_cons_of_ne_nil hne
 rw [hw, List.length_cons] at hlen
 rw [hw] at h1 hmem
 have hcut : Xx (w :: ws) 1 (w :: ws).length = some ws := by rw [V6 (by simp; omega)]; rfl
 rw [show Yv (w :: ws) 0 = some w from rfl, Jb, kindOf_eq, Jb, cI] at h1
 by_cases hk : Ux w = 0
 ·rw [if_pos hk] at h1
  obtain rfl := Option.some.inj h1
  exact ⟨by simp, fun _ => rfl⟩
 ·rw [if_neg hk, hcut, Jb] at h1
  obtain ⟨t, t1, t2, t3⟩ := readWords_eq (K := Ux w) (ws := ws) (by omega) (fun x hx => by have := hmem x (List.mem_cons_of_mem _ hx); omega)
  rw [t1, Jb] at h1
  have hz : (∃ u, b = u ++ [0]) → t.2 = false := by
   rintro ⟨u, rfl⟩
   obtain ⟨ws2, x, h, _⟩ := Jjt u
   rw [hw] at h
   cases ws2 with
   | nil => rw [List.nil_append] at h; injection h with h h'; exact absurd (h ▸ kind_zero) hk
   | cons a ws2 => rw [List.cons_append] at h; injection h with _ h'; exact t3 ⟨ws2, x, h'⟩
  cases ht : t.2 with
  | false =>
   rw [ht, Bool.not_false, Qh] at h1
   obtain rfl := Option.some.inj h1
   exact ⟨by simp, fun _ => rfl⟩
  | true =>
   refine ⟨?_, fun h => by rw [hz h] at ht; cases ht⟩
   obtain ⟨s1, s2, s3, s4⟩ := t2 ht
   rw [ht, Bool.not_true, Jy] at h1
   obtain ⟨c, _, h1⟩ := Je h1
   rw [cI] at h1
   split at h1
   ·obtain rfl := Option.some.inj h1; simp
   ·obtain ⟨v2, hv2, h1⟩ := Je h1
    obtain rfl := Option.some.inj h1
    have hhd : (ws.headD []).length ≤ b.length := by
     cases ws with
     | nil => simp
     | cons y l => exact hmem y (by simp)
    rw [copy_v t.1 ⟨by omega, by omega, by omega⟩ s3] at hv2
    obtain rfl := Option.some.inj hv2
    rcases s4 with e | ⟨e1, e2⟩
    ·rw [e]; simp; omega
    ·rw [e1, e2]; simp; omega
end Go.M

namespace Go.M
open Go.Md Go.Pl
open Classical in
noncomputable def endR (r : TxR) (n : Int) : Option (Td × Int × Int) :=
 J2 (decide (0 < (r.op.length : Int))) (Js (gI (n + 1)) fun n => some (noF, n, 8)) (Js (Jc1 ⟨r.big, r.dirs⟩) fun c => J2 (decide (c ≠ 0)) (some (noF, 0, c)) (if fitF 8 ⟨r.big, r.dirs⟩ then some (⟨r.big, r.dirs⟩, 0, 0) else none))
noncomputable def Wo : TxR → Nat → List (List UInt8) → Option (Td × Int × Int)
 | r, n, [] => endR r n
 | r, n, s :: T => Js (Zd r s) fun q => J2 (decide (q.1 ≠ 0)) (some (noF, (n : Int) + 1, q.1)) (Wo q.2 (n + 1) T)
theorem tput_len {r r' : TxR} {e : Ta} (h : Jf3 r e = some r') : r'.op.length = r.op.length := by
 unfold Jf3 at h
 rw [cI] at h
 split at h
 ·obtain ⟨q, _, h⟩ := Je h
  obtain ⟨x, _, h⟩ := Je h
  obtain ⟨z, _, h⟩ := Je h
  obtain ⟨o, ho, h⟩ := Je h
  obtain rfl := Option.some.inj h
  obtain ⟨_, _, rfl⟩ := Je6 ho
  simp
 ·obtain ⟨q, _, h⟩ := Je h
  obtain ⟨x, _, h⟩ := Je h
  obtain ⟨z, _, h⟩ := Je h
  obtain ⟨o, ho, h⟩ := Je h
  obtain rfl := Option.some.inj h
  rfl
theorem line_len {r : TxR} {s : List UInt8} {q : Int × TxR} (h : Zd r s = some q) : q.2.op.length ≤ r.op.length + 1 := by
 have hent : ∀ {q : Int × TxR}, Ja8 r s = some q → q.2.op.length ≤ r.op.length + 1 := fun {q} h => by
  unfold Ja8 at h
  obtain ⟨_, _, h⟩ := Je h
  obtain ⟨_, _, h⟩ := Je h
  obtain ⟨_, _, h⟩ := Je h
  obtain ⟨c, _, h⟩ := Je h
  obtain ⟨p, _, h⟩ := Je h
  generalize (!_ || _) = b1 at h
  cases b1 with
  | true => obtain rfl := Option.some.inj (Xn rfl h); simp
  | false =>
   replace h := Xg rfl h
   rw [cI] at h
   split at h
   ·obtain ⟨o, ho, h⟩ := Je h
    obtain rfl := Option.some.inj h
    obtain ⟨rfl, _⟩ := Jch ho
    simp
   ·unfold Jfd at h
    obtain ⟨v, _, h⟩ := Je h
    rw [cI] at h
    split at h
    ·obtain ⟨r', hr, h⟩ := Je h
     obtain rfl := Option.some.inj h
     rw [tput_len hr]; omega
    ·obtain rfl := Option.some.inj h; simp
 unfold Zd at h
 generalize hb1 : (decide (s = [100, 105, 114]) && decide ((r.op.length : Int) = 0)) = b1 at h
 cases b1 with
 | true =>
  obtain ⟨o, ho, h⟩ := Je (Xn rfl h)
  obtain rfl := Option.some.inj h
  simp
 | false =>
  replace h := Xg rfl h
  unfold Jew at h
  obtain ⟨b2, _, h⟩ := Je h
  cases b2 with
  | true =>
   replace h := Xn rfl h
   unfold tx_shut at h
   obtain ⟨z, hz, h⟩ := Je h
   obtain ⟨x, _, h⟩ := Je h
   obtain ⟨o, ho, h⟩ := Je h
   obtain ⟨r', hr, h⟩ := Je h
   obtain rfl := Option.some.inj h
   obtain ⟨_, _, h3, rfl⟩ := Z0 ho
   rw [tput_len hr, List.length_take]
   simp only [List.length_drop]
   omega
  | false => exact hent (Xg rfl h)
theorem Jhn {a p : List UInt8} (h : a.length + p.length ≤ 9223372036854775807) : ∃ q : List UInt8 × Bool, W9 a p = some q ∧ (q.2 = true → a = p ++ q.1) ∧ (q.2 = false → q.1 = a) := by
 unfold W9 Z6 Xf
 rw [cI]
 by_cases hl : (p.length : Int) ≤ a.length
 ·rw [if_pos hl, Jbm (by omega), Jb, Int.toNat_natCast, Jb]
  by_cases hp : a.take p.length = p
  ·have ha : a = p ++ a.drop p.length := by
    conv => lhs; rw [← List.take_append_drop p.length a, hp]
   rw [decide_eq_true hp, Bool.not_true, Jy, V6 (by omega), Jb, Int.toNat_natCast, Jb]
   exact ⟨_, rfl, fun _ => ha, fun h => Bool.noConfusion h⟩
  ·rw [decide_eq_false hp, Bool.not_false, Qh, Jb]
   exact ⟨_, rfl, fun h => Bool.noConfusion h, fun _ => rfl⟩
 ·rw [if_neg hl, Jb, Bool.not_false, Qh, Jb]
  exact ⟨_, rfl, fun h => Bool.noConfusion h, fun _ => rfl⟩
theorem bad_line {r : TxR} {s : List UInt8} (ho : r.op.length ≤ 4000000) (hs : s.length ≤ 1000000) : Zd r (s ++ [0]) = some (8, r) := by
 have hsl : (s ++ [0]).length = s.length + 1 := by simp
 have hd : s ++ [0] ≠ [100, 105, 114] := fun e => by
  have := congrArg List.getLast? e
  simp at this
 have hent : Ja8 r (s ++ [0]) = some (8, r) := by
  unfold Ja8
  have h2 := Jcu (r.op.length + 1)
  rw [J7 (by omega), Jb, show ((r.op.length : Int) + 1) = ((r.op.length + 1 : Nat) : Int) from by omega, Jd6 (by omega), Jb]
  obtain ⟨q, q1, q2, q3⟩ := Jhn (a := s ++ [0]) (p := sp2 (r.op.length + 1)) (by omega)
  have hql : q.1.length ≤ s.length + 1 := by
   cases hq : q.2 with
   | true => have := congrArg List.length (q2 hq); rw [hsl, List.length_append] at this; omega
   | false => rw [q3 hq]; omega
  rw [q1, Jb, Jfr (by omega), Jb, (Jbp false _).1, Jb]
  cases hq : q.2 with
  | false => rfl
  | true =>
   cases hc : (Qk 32 q.1).2.2 with
   | false => rfl
   | true =>
    cases hp : (pnT false (Qk 32 q.1).1).2 with
    | false => rfl
    | true =>
     have e1 := q2 hq
     have e2 := Ua hc
     rw [e2] at e1
     rw [show sp2 (r.op.length + 1) ++ ((Qk 32 q.1).1 ++ 32 :: (Qk 32 q.1).2.1) = (sp2 (r.op.length + 1) ++ (Qk 32 q.1).1) ++ 32 :: (Qk 32 q.1).2.1 from by simp] at e1
     obtain ⟨v, hv, hu⟩ := last_of e1.symm (by decide)
     have hvl := congrArg List.length hu
     simp only [List.length_append, List.length_cons] at hvl
     cases hdl : decide ((r.dirs.length : Int) = 0) with
     | true => rfl
     | false =>
      show J2 (decide ((Qk 32 q.1).2.1 = [123])) _ _ = _
      rw [hv, cI, if_neg (fun e => by have := congrArg List.getLast? e; simp at this)]
      unfold Jfd
      obtain ⟨z, z1, _, _, _, z5⟩ := Jga (v ++ [0]) (by rw [List.length_append, List.length_singleton]; omega)
      rw [z1, Jb, z5 ⟨v, rfl⟩]
      rfl
 unfold Zd
 rw [decide_eq_false hd, Bool.false_and, Jy]
 unfold Jew
 rw [cI]
 by_cases h0 : 0 < (r.op.length : Int)
 ·have h2 := Jcu r.op.length
  rw [if_pos h0, Jd6 (by omega), Jb, Xb (by rw [List.length_singleton]; omega), Jb, Jb]
  have : ¬ s ++ [0] = sp2 r.op.length ++ [125] := fun e => by
   have := (List.append_inj' e rfl).2
   simp at this
  rw [decide_eq_false this, Jy, hent]
 ·rw [if_neg h0, Jb, Jy, hent]
def Jdz (last : List UInt8) : List (List UInt8) := if last = [] then [] else [last ++ [0]]
theorem prog_last {r : TxR} {n : Nat} {last : List UInt8} (h0 : 0 < n) (hn : n ≤ 4000000) (ho : r.op.length ≤ 4000000) (hl : last.length ≤ 1000000) (hc : ∀ c ∈ last, c ≠ 10) : Yz Wi (last, (n : Int), r) = Wo r n (Jdz last) := by
 unfold Jdz
 by_cases h : last = []
 ·rw [if_pos h, h]
  refine Ql fun next => ?_
  unfold Wi Wo endR
  show J2 (decide (([] : List UInt8) ≠ [])) _ (J2 (decide ((n : Int) = 0) || decide (0 < (r.op.length : Int))) _ _) = _
  rw [cI, if_neg (by simp), decide_eq_false (show ¬ (n : Int) = 0 by omega), Bool.false_or]
 ·rw [if_neg h]
  refine Ql fun next => ?_
  unfold Wi
  show J2 (decide (last ≠ [])) (Js (Ym last [10]) fun c => Js (gI ((n : Int) + 1)) fun n => _) _ = _
  rw [cI, if_pos h, Jfr (by omega), Jb, cutS_none hc, J7 (by omega), Jb]
  unfold Wo
  rw [bad_line ho hl, Jb]
  rfl
theorem prog_spec {last : List UInt8} (hl : last.length ≤ 1000000) (hc : ∀ c ∈ last, c ≠ 10) : ∀ (ls : List (List UInt8)) (r : TxR) (n : Nat), 0 < n → r.op.length ≤ n → n + ls.length ≤ 4000000 → (∀ x ∈ ls, ∀ c ∈ x, c ≠ 10) → (unl ls).length + last.length ≤ 1000000 →
  Yz Wi (unl ls ++ last, (n : Int), r) = Wo r n (ls ++ Jdz last)
 | [], r, n, h0, ho, hn, _, _ => by
  rw [List.length_nil] at hn
  rw [Jd8, List.nil_append, List.nil_append]
  exact prog_last h0 (by omega) (by omega) hl hc
 | s :: ls, r, n, h0, ho, hn, hm, hz => by
  rw [Zb] at hz ⊢
  rw [List.length_cons] at hn
  have hz2 := hz
  rw [List.length_append, List.length_cons] at hz2
  have key : ∀ next, Wi next ((s ++ 10 :: unl ls) ++ last, (n : Int), r) = Js (Zd r s) fun q => J2 (decide (q.1 ≠ 0)) (some (noF, (n : Int) + 1, q.1)) (next (unl ls ++ last, (n : Int) + 1, q.2)) := fun next => by
   unfold Wi
   show J2 (decide ((s ++ 10 :: unl ls) ++ last ≠ [])) (Js (Ym ((s ++ 10 :: unl ls) ++ last) [10]) fun c => Js (gI ((n : Int) + 1)) fun n => _) _ = _
   rw [cI, if_pos (by simp), show (s ++ 10 :: unl ls) ++ last = s ++ 10 :: (unl ls ++ last) from by simp, take_line (hm s (by simp)) (by simp only [List.length_append, List.length_cons]; omega), Jb, J7 (by omega), Jb]
   show (Js (J2 (!true || (decide ((n : Int) + 1 = 1) && _)) _ (J2 (decide ((n : Int) + 1 = 1)) _ (Zd r s))) fun q => _) = _
   rw [decide_eq_false (show ¬ (n : Int) + 1 = 1 by omega), Bool.false_and, Bool.not_true, Bool.false_or, Jy, Jy]
  show Yz Wi ((s ++ 10 :: unl ls) ++ last, (n : Int), r) = Js (Zd r s) fun q => J2 (decide (q.1 ≠ 0)) (some (noF, (n : Int) + 1, q.1)) (Wo q.2 (n + 1) (ls ++ Jdz last))
  cases hq : Zd r s with
  | none => exact Ql fun next => by rw [key, hq]; rfl
  | some q =>
   rw [Jb]
   by_cases he : q.1 = 0
   ·rw [cI, if_neg (fun h => h he), ← prog_spec hl hc ls q.2 (n + 1) (by omega) (by have := line_len hq; omega) (by omega) (fun x hx => hm x (List.mem_cons_of_mem _ hx)) (by omega)]
    exact X2 _ fun next => by rw [key, hq, Jb, cI, if_neg (fun h => h he)]; rfl
   ·rw [cI, if_pos he]
    exact Ql fun next => by rw [key, hq, Jb, cI, if_pos he]
theorem Ji7 : ∀ x : List UInt8, ∃ ls last, Jbq 10 x = ls ++ [last] ∧ x = unl ls ++ last ∧ (∀ y ∈ ls, ∀ c ∈ y, c ≠ 10) ∧ ∀ c ∈ last, c ≠ 10
 | [] => ⟨[], [], rfl, rfl, by simp, by simp⟩
 | b :: x => by
  obtain ⟨ls, last, h1, h2, h3, h4⟩ := Ji7 x
  rw [Jgp, h1]
  by_cases hb : b = 10
  ·rw [if_pos hb]
   refine ⟨[] :: ls, last, rfl, ?_, fun y hy => ?_, h4⟩
   ·rw [Zb, hb, h2]; rfl
   ·rcases List.mem_cons.1 hy with e | e
    ·rw [e]; simp
    ·exact h3 y e
  ·rw [if_neg hb]
   cases ls with
   | nil =>
    refine ⟨[], b :: last, rfl, by rw [h2]; rfl, by simp, fun c hc => ?_⟩
    rcases List.mem_cons.1 hc with e | e
    ·rw [e]; exact hb
    ·exact h4 c e
   | cons w ls =>
    refine ⟨(b :: w) :: ls, last, rfl, by rw [h2, Zb, Zb]; simp, fun y hy => ?_, h4⟩
    rcases List.mem_cons.1 hy with e | e
    ·rw [e]
     intro c hc
     rcases List.mem_cons.1 hc with e | e
     ·rw [e]; exact hb
     ·exact h3 w (by simp) c e
    ·exact h3 y (List.mem_cons_of_mem _ e)
noncomputable def specT (lines : List (List UInt8)) : Option (Td × Int × Int) := match lines with
 | [] => some (noF, 1, 8)
 | h :: T => if h ≠ [98, 105, 103] ∧ h ≠ [108, 105, 116, 116, 108, 101] then some (noF, 1, 8) else Wo ⟨decide (h = [98, 105, 103]), [], []⟩ 1 T
theorem Jk1 {ls : List (List UInt8)} {last : List UInt8} (hm : ∀ y ∈ ls, ∀ c ∈ y, c ≠ 10) (hc : ∀ c ∈ last, c ≠ 10) (hl : (unl ls ++ last).length ≤ 1000000) : U6 (unl ls ++ last) = specT (ls ++ Jdz last) := by
 have hl2 := hl
 rw [List.length_append] at hl2
 unfold U6
 rw [cI, if_neg (by omega)]
 cases ls with
 | nil =>
  rw [Jd8, List.nil_append, List.nil_append]
  unfold Jdz specT
  by_cases h : last = []
  ·rw [if_pos h, h]
   refine Ql fun next => ?_
   unfold Wi
   show J2 (decide (([] : List UInt8) ≠ [])) _ (J2 (decide ((0 : Int) = 0) || _) (Js (gI ((0 : Int) + 1)) fun n => some (noF, n, 8)) _) = _
   rw [cI, if_neg (by simp), decide_eq_true rfl, Bool.true_or, Qh, J7 (by omega), Jb]
   rfl
  ·rw [if_neg h]
   show _ = if last ++ [0] ≠ _ ∧ _ then _ else _
   rw [if_pos ⟨fun e => by have := congrArg List.getLast? e; simp at this, fun e => by have := congrArg List.getLast? e; simp at this⟩]
   refine Ql fun next => ?_
   unfold Wi
   show J2 (decide (last ≠ [])) (Js (Ym last [10]) fun c => Js (gI ((0 : Int) + 1)) fun n => _) _ = _
   rw [cI, if_pos h, Jfr (by omega), Jb, cutS_none hc, J7 (by omega), Jb]
   rfl
 | cons s ls =>
  rw [Zb] at hl hl2 ⊢
  rw [List.length_append, List.length_cons] at hl2
  have hll := lines_le ls
  have key : ∀ next, Wi next ((s ++ 10 :: unl ls) ++ last, 0, ⟨false, [], []⟩) = if s ≠ [98, 105, 103] ∧ s ≠ [108, 105, 116, 116, 108, 101] then some (noF, 1, 8) else next (unl ls ++ last, ((1 : Nat) : Int), ⟨decide (s = [98, 105, 103]), [], []⟩) := fun next => by
   unfold Wi
   show J2 (decide ((s ++ 10 :: unl ls) ++ last ≠ [])) (Js (Ym ((s ++ 10 :: unl ls) ++ last) [10]) fun c => Js (gI ((0 : Int) + 1)) fun n => _) _ = _
   rw [cI, if_pos (by simp), show (s ++ 10 :: unl ls) ++ last = s ++ 10 :: (unl ls ++ last) from by simp, take_line (hm s (by simp)) (by simp only [List.length_append, List.length_cons]; omega), Jb, J7 (by omega), Jb]
   show (Js (J2 (!true || (decide ((0 : Int) + 1 = 1) && (decide (s ≠ [98, 105, 103]) && decide (s ≠ [108, 105, 116, 116, 108, 101])))) (some (8, (⟨false, [], []⟩ : TxR))) (J2 (decide ((0 : Int) + 1 = 1)) (some (0, (⟨decide (s = [98, 105, 103]), [], []⟩ : TxR))) _)) fun q => _) = _
   rw [decide_eq_true (show (0 : Int) + 1 = 1 by omega), Bool.true_and, Bool.not_true, Bool.false_or, Qh]
   by_cases h : s ≠ [98, 105, 103] ∧ s ≠ [108, 105, 116, 116, 108, 101]
   ·rw [if_pos h, decide_eq_true h.1, decide_eq_true h.2, Bool.true_and, Qh, Jb]; rfl
   ·rw [if_neg h, show (decide (s ≠ [98, 105, 103]) && decide (s ≠ [108, 105, 116, 116, 108, 101])) = false from by
     rw [← Bool.not_eq_true, Bool.and_eq_true, decide_eq_true_iff, decide_eq_true_iff]; exact h, Jy, Jb]
    rfl
  rw [List.cons_append]
  show _ = if s ≠ [98, 105, 103] ∧ s ≠ [108, 105, 116, 116, 108, 101] then some (noF, 1, 8) else Wo ⟨decide (s = [98, 105, 103]), [], []⟩ 1 (ls ++ Jdz last)
  by_cases h : s ≠ [98, 105, 103] ∧ s ≠ [108, 105, 116, 116, 108, 101]
  ·rw [if_pos h]
   exact Ql fun next => by rw [key, if_pos h]
  ·rw [if_neg h, ← prog_spec (by omega) hc ls _ 1 (by omega) (by simp) (by omega) (fun x hx => hm x (List.mem_cons_of_mem _ hx)) (by omega)]
   exact X2 _ fun next => by rw [key, if_neg h]
end Go.M
