/-
  The law EditDeletes of layer 15 holds for all states, indices and numbers. Part 8 of 12.
-/
import Derived.Test.YtmbndijbpgobeaaGreatEG
import Derived.Laws.Tables
import Derived.StillTailTactics
import Derived.Maps.OwnOps
import Derived.IntWalk
import Derived.RangeFuncNested
import Derived.RangeFuncBound
import Derived.RangeFuncCalls
import Derived.RangeFuncLeaves
import Derived.Shelf.Abstract
import Derived.Shelf.RegionOpen
import Derived.OwnWalkIn
import Derived.TacticsInMore
import Derived.LoopNIn
import Derived.LoopIn
import Derived.RangeFuncBox
import Derived.Maps.AppendAt
import Derived.Lib.BufferMore
import Derived.Laws.CopyRow
import Derived.LoopTactic
import Derived.Outline
import Derived.WalkKit
import Derived.WalkLawsBesides
section
namespace Go.Proofs.YtmbndijbpgobeaaGreat.PWalk
open Go.RowKit Go.Proofs.YtmbndijbpgobeaaGreatW.PrintWords Go.Proofs.YtmbndijbpgobeaaGreatW.PrintLast Go.Proofs.YtmbndijbpgobeaaGreatW.PrintMore
set_option linter.unusedVariables false
set_option linter.unusedSimpArgs false
open Go.Shelf
attribute [local go_sem] Oper.semAt_some
/-- The join of two states: none where they don't agree. -/
def joinN : Nat → List Node → List Node → Option (List Node)
 | 0, l, m => some (l ++ m)
 | k + 1, l, m => match l, m with
  | [], m => some m
  | x :: l, [] => some (x :: l)
  | x :: l, y :: m => if dotLt x.f0 y.f0 = true then (joinN k l (y :: m)).map (x :: ·) else if dotLt y.f0 x.f0 = true then (joinN k (x :: l) m).map (y :: ·) else (mergeN x y).bind fun z => (joinN k l m).map (z :: ·)
def joinOf (l m : List Node) : Option (List Node) := joinN (l.length + m.length) l m
def joinR (l m : List Node) : List Node × Int := if storeOk l = true ∧ storeOk m = true then (match joinOf l m with | some r => (r, 0) | none => ([], 15)) else ([], 2)
def join_Join.f (l0 l1 : List Node) : Option (List Node × Int) := if l0.length + l1.length ≤ 400000 then some (joinR l0 l1) else none
theorem joinN_cons (k : Nat) (x y : Node) (l m : List Node) : joinN (k + 1) (x :: l) (y :: m) = if dotLt x.f0 y.f0 = true then (joinN k l (y :: m)).map (x :: ·) else if dotLt y.f0 x.f0 = true then (joinN k (x :: l) m).map (y :: ·) else (mergeN x y).bind fun z => (joinN k l m).map (z :: ·) := rfl
theorem joinN_nil (k : Nat) (m : List Node) : joinN k [] m = some m := by cases k <;> rfl
theorem joinN_nil2 (k : Nat) (l : List Node) : joinN k l [] = some l := by
 cases k with
 | zero => simp [joinN]
 | succ k => cases l <;> rfl
theorem joinN_fuel : ∀ (k : Nat) (l m : List Node) (q : Nat), l.length + m.length ≤ k → l.length + m.length ≤ q → joinN k l m = joinN q l m
 | k, [], m, q, _, _ => by rw [joinN_nil, joinN_nil]
 | k, x :: l, [], q, _, _ => by rw [joinN_nil2, joinN_nil2]
 | 0, x :: l, y :: m, q, h, _ => by simp at h
 | k + 1, x :: l, y :: m, 0, _, h => by simp at h
 | k + 1, x :: l, y :: m, q + 1, h, h2 => by
  simp only [List.length_cons] at h h2
  rw [joinN_cons, joinN_cons, joinN_fuel k l (y :: m) q (by simp only [List.length_cons]; omega) (by simp only [List.length_cons]; omega), joinN_fuel k (x :: l) m q (by simp only [List.length_cons]; omega) (by simp only [List.length_cons]; omega), joinN_fuel k l m q (by omega) (by omega)]
theorem joinOf_nil (m : List Node) : joinOf [] m = some m := joinN_nil _ _
theorem joinOf_nil2 (l : List Node) : joinOf l [] = some l := joinN_nil2 _ _
theorem joinOf_cons (x y : Node) (l m : List Node) : joinOf (x :: l) (y :: m) = if dotLt x.f0 y.f0 = true then (joinOf l (y :: m)).map (x :: ·) else if dotLt y.f0 x.f0 = true then (joinOf (x :: l) m).map (y :: ·) else (mergeN x y).bind fun z => (joinOf l m).map (z :: ·) := by
 unfold joinOf
 have h : (x :: l).length + (y :: m).length = (l.length + m.length + 1) + 1 := by simp only [List.length_cons]; omega
 rw [h, joinN_cons, joinN_fuel (l.length + m.length + 1) l (y :: m) (l.length + (y :: m).length) (by simp only [List.length_cons]; omega) (Nat.le_refl _), joinN_fuel (l.length + m.length + 1) (x :: l) m ((x :: l).length + m.length) (by simp only [List.length_cons]; omega) (Nat.le_refl _), joinN_fuel (l.length + m.length + 1) l m (l.length + m.length) (by omega) (Nat.le_refl _)]
theorem addr_zero (a : Addr) : a.add (0 * 6) = a := by
 cases a
 simp [Addr.add]
theorem node_first {w wr : World} {a : Addr} {n : Nat} {x : Node} {xs : List Node} (h : Kd.C k53 w (some a) n (x :: xs)) (hb : Below w.heap.size w wr) :
  wr.cell? a = some (.int .i64 x.f0.f0) ∧ wr.cell? ⟨a.block, a.off + 1, none⟩ = some (.int .i64 x.f0.f1) ∧ wr.cell? ⟨a.block, a.off + 2, none⟩ = some (.int .i64 x.f1.f0) ∧ wr.cell? ⟨a.block, a.off + 3, none⟩ = some (.int .i64 x.f1.f1) ∧ wr.cell? ⟨a.block, a.off + 4, none⟩ = some (.int .i64 x.f2) ∧ wr.cell? ⟨a.block, a.off + 5, none⟩ = some (.int .i32 x.f3) := by
 obtain ⟨ad, e, h⟩ := node_at h hb 0 x rfl
 cases e
 rwa [addr_zero] at h
theorem op_boxNode {o : Oper} {a : Act} {K : Act → World → Prop} {Q : Exit → Act → World → Prop} (s x : Operand) (ho : o.op = .store 53 s x) (hd : o.dst = none) {w : World} {g : Nat} {c0 c1 c2 c3 c4 c5 : Value}
  (hg : w.heap[g]? = some (.cells #[c0, c1, c2, c3, c4, c5] 53 (0, 0))) (y : Node) (hs : a.eval s = .pointer (some ⟨g, 0, none⟩)) (hx : a.eval x = vNode y)
  (hk : ∀ w', w'.heap[g]? = some (boxN y) → w.grownBy w' (some g) → K a w') : o.wp Tryz.prog a w K Q := by
 obtain ⟨i0, hi0, hz0, hz1, hz2⟩ := info_parts infoN
 refine wp_store_row 53 s x ho g _ hs hx 53 _ hg (by rw [hi0]; show some i0.size = some 6; rw [hz1]) rfl (Array.all_eq_true_iff_forall_mem.2 (by intro v hv; simp at hv; rcases hv with rfl | rfl | rfl | rfl | rfl | rfl <;> rfl)) ?_
 rw [hd]
 exact hk _ (setRow_at hg _) (setRow_grown w g _)
/-- What has come up where one node is put to the end of the own row. -/
structure JA (w : World) (out : List Node) (x : Node) (vo : Value) (lm lp lq lb la l8 l9 lr l10 ll : Bool) (Z : World → Prop) (g : Nat) (v2 : Value) (V : World) : Prop where
 ord5 : la = true → lb = true
 ord8 : l8 = true → la = true ∧ lm = true
 ord9 : l9 = true → lp = true ∧ lq = true
 ord10 : l10 = true → lr = true
 below : Below w.heap.size w V
 r1 : la = false → RN V w.heap.size vo out
 bx : lb = true → la = false → V.heap[g]? = some (boxN x)
 r2 : la = true → RN V w.heap.size v2 (out ++ [x])
 kz : la = false → Z V
 ordB : lb = true → ll = true
/-- What has come up where two nodes are merged. -/
structure JM (w : World) (out : List Node) (vo : Value) (z : Node) (l10 l11 : Bool) (g : Nat) (V : World) : Prop where
 ord : l11 = true → l10 = true
 below : Below w.heap.size w V
 r1 : RN V w.heap.size vo out
 bz : l10 = true → l11 = false → V.heap[g]? = some boxZ
 bx : l11 = true → V.heap[g]? = some (boxN z)
 ge : l10 = true → w.heap.size ≤ g ∧ ∀ q, vo.ownBlock = some q → q ≠ g
theorem cmp_lt {a b : Dot} (h : dotLt a b = true) : dotCmp a b = -1 := by unfold dotCmp; rw [if_pos h]
theorem cmp_gt {a b : Dot} (h : dotLt a b = false) (k : dotLt b a = true) : dotCmp a b = 1 := by unfold dotCmp; rw [if_neg (by rw [h]; decide), if_pos k]
theorem cmp_eq {a b : Dot} (h : dotLt a b = false) (k : dotLt b a = false) : dotCmp a b = 0 := by unfold dotCmp; rw [if_neg (by rw [h]; decide), if_neg (by rw [k]; decide)]
def lenV : Value → Nat
 | .slice _ n _ => n
 | _ => 0
def jn5Inv (W0 : World) (ada adb : Addr) (Ao : Option Addr) (na ca nb cb no co : Nat) (x y : Node) (z2 z3 z4 z5 z7 z8 z9 z10 z11 z12 z13 z14 z15 z16 z17 z18 z19 z20 z21 z22 z23 z24 z25 z26 z27 z28 z29 z30 z31 z32 z33 z34 z35 z36 z37 z38 z39 z40 z41 z42 z43 z44 z45 z46 z47 z48 z49 z50 z51 z52 z53 z54 z55 z56 z57 z58 z59 z60 z61 z62 z63 z64 z65 z66 z67 z68 z69 z70 z71 z72 z73 z74 z75 z76 z77 z78 z79 : Value) (L : Array Bool) (ac : Act) (V : World) : Prop := ∃ (l0 l1 l2 l3 l4 l5 l6 l7 l8 : Bool), L = #[l0, l1, l2, l3, l4, l5, l6, l7, l8] ∧ ac = { tmps := #[.slice (some ada) na ca, .slice (some adb) nb cb, z2, z3, z4, z5, .slice Ao no co, z7, z8, z9, z10, z11, z12, z13, z14, z15, z16, z17, z18, z19, z20, z21, z22, z23, z24, selv l0 (.slice (some ada) na ca) (z25), selv l1 (.pointer (some (ada.add 0))) (z26), selv l2 (.pointer (some (ada.add 0))) (z27), selv l3 (vDot x.f0) (z28), selv l4 (.slice (some adb) nb cb) (z29), selv l5 (.pointer (some (adb.add 0))) (z30), selv l6 (.pointer (some (adb.add 0))) (z31), selv l7 (vDot y.f0) (z32), selv l8 (.int .i64 (dotCmp x.f0 y.f0)) (z33), z34, z35, z36, z37, z38, z39, z40, z41, z42, z43, z44, z45, z46, z47, z48, z49, z50, z51, z52, z53, z54, z55, z56, z57, z58, z59, z60, z61, z62, z63, z64, z65, z66, z67, z68, z69, z70, z71, z72, z73, z74, z75, z76, z77, z78, z79], defers := [] } ∧ Aside0 (Below W0.heap.size W0 V)
def jn11Inv (W0 : World) (ada adb : Addr) (Ao A' : Option Addr) (na ca nb cb no co n' c' : Nat) (x y : Node) (out : List Node) (z2 z3 z4 z5 z7 z8 z9 z10 z11 z12 z13 z14 z15 z16 z17 z18 z19 z20 z21 z22 z23 z24 z25 z26 z27 z28 z29 z30 z31 z32 z33 z34 z35 z36 z37 z38 z39 z40 z41 z42 z43 z44 z45 z46 z47 z48 z49 z50 z51 z52 z53 z54 z55 z56 z57 z58 z59 z60 z61 z62 z63 z64 z65 z66 z67 z68 z69 z70 z71 z72 z73 z74 z75 z76 z77 z78 z79 : Value) (L : Array Bool) (ac : Act) (V : World) : Prop := ∃ (l0 l1 l2 l3 l4 l5 l6 l7 l8 l9 : Bool) (g : Nat) (v2 : Value), L = #[l0, l1, l2, l3, l4, l5, l6, l7, l8, l9] ∧ ac = { tmps := #[selv l9 (.slice A' n' c') (.slice (some ada) na ca), .slice (some adb) nb cb, z2, z3, z4, z5, selv l8 (v2) (.slice Ao no co), z7, z8, z9, z10, z11, z12, z13, z14, z15, z16, z17, z18, z19, z20, z21, z22, z23, z24, z25, z26, z27, z28, z29, z30, z31, z32, z33, z34, z35, z36, z37, z38, z39, z40, z41, z42, z43, z44, z45, z46, z47, z48, z49, z50, z51, z52, z53, z54, z55, z56, selv l0 (.slice Ao no co) (z57), selv l1 (.slice (some ada) na ca) (z58), selv l2 (.pointer (some (ada.add 0))) (z59), selv l3 (vNode x) (z60), selv l4 (.slice (some ⟨g, 0, none⟩) 1 1) (z61), selv l5 (v2) (z62), selv l6 (.slice (some ada) na ca) (z63), selv l7 (.slice A' n' c') (z64), z65, z66, z67, z68, z69, z70, z71, z72, z73, z74, z75, z76, z77, z78, z79], defers := [] } ∧ Aside0 (JA W0 out x (.slice Ao no co) l0 l1 l6 l4 l5 l8 l9 false false true (fun _ => True) g v2 V)
def jn13Inv (W0 : World) (ada adb : Addr) (Ao A' : Option Addr) (na ca nb cb no co n' c' : Nat) (x y : Node) (out : List Node) (z2 z3 z4 z5 z7 z8 z9 z10 z11 z12 z13 z14 z15 z16 z17 z18 z19 z20 z21 z22 z23 z24 z25 z26 z27 z28 z29 z30 z31 z32 z33 z34 z35 z36 z37 z38 z39 z40 z41 z42 z43 z44 z45 z46 z47 z48 z49 z50 z51 z52 z53 z54 z55 z56 z57 z58 z59 z60 z61 z62 z63 z64 z65 z66 z67 z68 z69 z70 z71 z72 z73 z74 z75 z76 z77 z78 z79 : Value) (L : Array Bool) (ac : Act) (V : World) : Prop := ∃ (l0 l1 l2 l3 l4 l5 l6 l7 l8 l9 : Bool) (g : Nat) (v2 : Value), L = #[l0, l1, l2, l3, l4, l5, l6, l7, l8, l9] ∧ ac = { tmps := #[.slice (some ada) na ca, selv l9 (.slice A' n' c') (.slice (some adb) nb cb), z2, z3, z4, z5, selv l8 (v2) (.slice Ao no co), z7, z8, z9, z10, z11, z12, z13, z14, z15, z16, z17, z18, z19, z20, z21, z22, z23, z24, z25, z26, z27, z28, z29, z30, z31, z32, z33, z34, z35, z36, z37, z38, z39, z40, z41, z42, z43, z44, z45, z46, z47, z48, z49, z50, z51, z52, z53, z54, z55, z56, z57, z58, z59, z60, z61, z62, z63, z64, z65, z66, selv l0 (.slice Ao no co) (z67), selv l1 (.slice (some adb) nb cb) (z68), selv l2 (.pointer (some (adb.add 0))) (z69), selv l3 (vNode y) (z70), selv l4 (.slice (some ⟨g, 0, none⟩) 1 1) (z71), selv l5 (v2) (z72), selv l6 (.slice (some adb) nb cb) (z73), selv l7 (.slice A' n' c') (z74), z75, z76, z77, z78, z79], defers := [] } ∧ Aside0 (JA W0 out y (.slice Ao no co) l0 l1 l6 l4 l5 l8 l9 false false true (fun _ => True) g v2 V)
def jn6Inv (W0 : World) (ada adb : Addr) (Ao : Option Addr) (na ca nb cb no co : Nat) (x y z : Node) (er : Int) (out : List Node) (z2 z3 z4 z5 z7 z8 z9 z10 z11 z12 z13 z14 z15 z16 z17 z18 z19 z20 z21 z22 z23 z24 z25 z26 z27 z28 z29 z30 z31 z32 z33 z34 z35 z36 z37 z38 z39 z40 z41 z42 z43 z44 z45 z46 z47 z48 z49 z50 z51 z52 z53 z54 z55 z56 z57 z58 z59 z60 z61 z62 z63 z64 z65 z66 z67 z68 z69 z70 z71 z72 z73 z74 z75 z76 z77 z78 z79 : Value) (L : Array Bool) (ac : Act) (V : World) : Prop := ∃ (l0 l1 l2 l3 l4 l5 l6 l7 l8 l9 l10 l11 l12 : Bool) (g : Nat), L = #[l0, l1, l2, l3, l4, l5, l6, l7, l8, l9, l10, l11, l12] ∧ ac = { tmps := #[.slice (some ada) na ca, .slice (some adb) nb cb, z2, z3, z4, z5, .slice Ao no co, selv l10 (.pointer (some ⟨g, 0, none⟩)) (z7), selv l12 (.int .i64 er) (z8), z9, z10, z11, z12, z13, z14, z15, z16, z17, z18, z19, z20, z21, z22, z23, z24, z25, z26, z27, z28, z29, z30, z31, z32, z33, selv l7 (.tuple #[vNode z, .int .i64 er]) (z34), selv l0 (.slice (some ada) na ca) (z35), selv l1 (.pointer (some (ada.add 0))) (z36), selv l2 (vNode x) (z37), selv l3 (.slice (some adb) nb cb) (z38), selv l4 (.pointer (some (adb.add 0))) (z39), selv l5 (vNode y) (z40), selv l6 (.tuple #[vNode z, .int .i64 er]) (z41), selv l8 (vNode z) (z42), selv l9 (.int .i64 er) (z43), z44, z45, z46, z47, z48, z49, z50, z51, z52, z53, z54, z55, z56, z57, z58, z59, z60, z61, z62, z63, z64, z65, z66, z67, z68, z69, z70, z71, z72, z73, z74, z75, z76, z77, z78, z79], defers := [] } ∧ Aside0 (JM W0 out (.slice Ao no co) z l10 l11 g V)
def jn9Inv (W0 : World) (ada adb : Addr) (Ao A' B' : Option Addr) (na ca nb cb no co n' c' m' d' gz : Nat) (x y z : Node) (out : List Node) (z2 z3 z4 z5 z8 z9 z10 z11 z12 z13 z14 z15 z16 z17 z18 z19 z20 z21 z22 z23 z24 z25 z26 z27 z28 z29 z30 z31 z32 z33 z34 z35 z36 z37 z38 z39 z40 z41 z42 z43 z44 z45 z46 z47 z48 z49 z50 z51 z52 z53 z54 z55 z56 z57 z58 z59 z60 z61 z62 z63 z64 z65 z66 z67 z68 z69 z70 z71 z72 z73 z74 z75 z76 z77 z78 z79 : Value) (L : Array Bool) (ac : Act) (V : World) : Prop := ∃ (l0 l1 l2 l3 l4 l5 l6 l7 l8 l9 l10 : Bool) (g : Nat) (v2 : Value), L = #[l0, l1, l2, l3, l4, l5, l6, l7, l8, l9, l10] ∧ ac = { tmps := #[selv l9 (.slice A' n' c') (.slice (some ada) na ca), selv l10 (.slice B' m' d') (.slice (some adb) nb cb), z2, z3, z4, z5, selv l8 (v2) (.slice Ao no co), .pointer (some ⟨gz, 0, none⟩), z8, z9, z10, z11, z12, z13, z14, z15, z16, z17, z18, z19, z20, z21, z22, z23, z24, z25, z26, z27, z28, z29, z30, z31, z32, z33, z34, z35, z36, z37, z38, z39, z40, z41, z42, z43, z44, z45, z46, selv l0 (.slice Ao no co) (z47), selv l1 (vNode z) (z48), selv l2 (.slice (some ⟨g, 0, none⟩) 1 1) (z49), selv l3 (v2) (z50), selv l4 (.slice (some ada) na ca) (z51), selv l5 (.slice A' n' c') (z52), selv l6 (.slice (some adb) nb cb) (z53), selv l7 (.slice B' m' d') (z54), z55, z56, z57, z58, z59, z60, z61, z62, z63, z64, z65, z66, z67, z68, z69, z70, z71, z72, z73, z74, z75, z76, z77, z78, z79], defers := [] } ∧ Aside0 (JA W0 out z (.slice Ao no co) l0 l4 l4 l2 l3 l8 l9 l6 l10 l1 (fun V => V.heap[gz]? = some (boxN z)) g v2 V)
set_option maxHeartbeats 4000000 in
set_option maxRecDepth 100000 in
theorem join_Join.calls (A0 : Option Addr) (c0 : Nat) (l0 : List Node) (A1 : Option Addr) (c1 : Nat) (l1 : List Node) (r1 : List Node) (r2 : Int) (w : World) (hr0 : Kd.C k53 w A0 l0.length l0) (hc0 : l0.length ≤ c0) (hr1 : Kd.C k53 w A1 l1.length l1) (hc1 : l1.length ≤ c1) (h : join_Join.f l0 l1 = some (r1, r2)) :
  Calls Tryz.prog 54 #[.slice A0 l0.length c0, .slice A1 l1.length c1] w fun e w' => ∃ v0_ : Value, e = .returned (.tuple #[v0_, .int .i64 r2]) ∧ Kd.R k53 53 w' w.heap.size (fun _ => True) v0_ r1 ∧ Below w.heap.size w w' := by
 unfold join_Join.f at h
 by_cases hl : l0.length + l1.length ≤ 400000
 rotate_left
 ·
  rw [if_neg hl] at h; cases h
 rw [if_pos hl] at h
 have HRES := Aside0.mk (Option.some.inj h)
 have HL := Aside0.mk hl
 have HR0 := Aside0.mk hr0
 have HR1 := Aside0.mk hr1
 have HC0 := Aside0.mk hc0
 have HC1 := Aside0.mk hc1
 have HB : Aside0 (Below w.heap.size w w) := ⟨Below.refl _ _⟩
 obtain ⟨b0, Hb0⟩ : ∃ b, Aside0 (storeOk l0 = b) := ⟨_, ⟨rfl⟩⟩
 obtain ⟨b1, Hb1⟩ : ∃ b, Aside0 (storeOk l1 = b) := ⟨_, ⟨rfl⟩⟩
 have HV0 := Aside0.mk (join_Valid.calls A0 c0 l0 b0 w hr0 hc0 (by unfold join_Valid.f store_Valid.f; rw [if_pos (by omega), Hb0.out]; rfl))
 have HV1 := Aside0.mk (fun W hb => join_Valid.calls A1 c1 l1 b1 W (Kd.C_below hr1 hb) hc1 (by unfold join_Valid.f store_Valid.f; rw [if_pos (by omega), Hb1.out]; rfl))
 have hu := Tryz.underlying53
 have hu2 := Tryz.underlying25
 obtain ⟨n0, Hn0⟩ : ∃ n, Aside0 (l0.length = n) := ⟨_, ⟨rfl⟩⟩
 obtain ⟨n1, Hn1⟩ : ∃ n, Aside0 (l1.length = n) := ⟨_, ⟨rfl⟩⟩
 rw [Hn0.out, Hn1.out]
 rw [Hn0.out] at HV0
 rw [Hn1.out] at HV1
 clear h hl hr0 hr1 hc0 hc1
 go_enter Tryz.func54, Tryz.ntmps54
 go_wp2_with fail
 refine HV0.out.mono ?_
 rintro e V0 ⟨rfl, hb⟩
 have HB := Aside0.mk (below_more HB.out hb)
 clear hb HV0
 cases b0
 ·
  clear HV1
  go_wp2
  go_ret2
  have h := HRES.out
  unfold joinR at h
  rw [if_neg (fun h => by have := h.1; rw [Hb0.out] at this; cases this)] at h
  cases h
  exact ⟨_, rfl, Kd.R_nil _ _ _ _ _, HB.out⟩
 go_wp2_with fail
 refine (HV1.out V0 HB.out).mono ?_
 rintro e V1 ⟨rfl, hb⟩
 have HB := Aside0.mk (below_more HB.out hb)
 clear hb HV1
 cases b1
 ·
  go_wp2
  go_ret2
  have h := HRES.out
  unfold joinR at h
  rw [if_neg (fun h => by have := h.2; rw [Hb1.out] at this; cases this)] at h
  cases h
  exact ⟨_, rfl, Kd.R_nil _ _ _ _ _, HB.out⟩
 have HRJ : Aside0 ((match joinOf l0 l1 with | some r => (r, (0 : Int)) | none => ([], 15)) = (r1, r2)) := ⟨by have := HRES.out; unfold joinR at this; rwa [if_pos ⟨Hb0.out, Hb1.out⟩] at this⟩
 have HOK : Aside0 ((∀ x ∈ l0, nodeOk x = true) ∧ ∀ x ∈ l1, nodeOk x = true) := ⟨by
  have h0 := Hb0.out
  have h1 := Hb1.out
  unfold storeOk at h0 h1
  rw [Bool.and_eq_true, List.all_eq_true] at h0 h1
  exact ⟨h0.1, h1.1⟩⟩
 clear HRES Hb0 Hb1
 go_wp2_with fail
 go_loopw [0, 1, 6] (fun a b s wr => ∃ (la lb out : List Node) (Aa Ab Ao : Option Addr) (na nb no ca cb co : Nat), a = .slice Aa na ca ∧ b = .slice Ab nb cb ∧ s = .slice Ao no co ∧ Aside0 (la.length = na ∧ lb.length = nb ∧ na ≤ ca ∧ nb ≤ cb ∧ na + nb + no ≤ 400000) ∧ Aside0 (Kd.C k53 w Aa na la) ∧ Aside0 (Kd.C k53 w Ab nb lb) ∧ Aside0 (RN wr w.heap.size (.slice Ao no co) out) ∧ Aside0 ((∀ x ∈ la, nodeOk x = true) ∧ ∀ x ∈ lb, nodeOk x = true) ∧ Aside0 ((joinOf la lb).map (out ++ ·) = joinOf l0 l1) ∧ Aside0 (Below w.heap.size w wr)) (fun a b _ _ => lenV a + lenV b)
 case atStart => exact ⟨l0, l1, [], _, _, none, n0, n1, 0, c0, c1, 0, rfl, rfl, rfl, ⟨Hn0.out, Hn1.out, by rw [← Hn0.out]; exact HC0.out, by rw [← Hn1.out]; exact HC1.out, by rw [← Hn0.out, ← Hn1.out]; exact HL.out⟩, ⟨by rw [← Hn0.out]; exact HR0.out⟩, ⟨by rw [← Hn1.out]; exact HR1.out⟩, ⟨Kd.R_nil _ _ _ _ _⟩, HOK, ⟨by simp⟩, HB⟩
 case round =>
  obtain ⟨la, lb, out, Aa, Ab, Ao, na, nb, no, ca, cb, co, rfl, rfl, rfl, HN, HCA, HCB, HO, HOK, HJ, HB⟩ := hrel
  clear Hn0 Hn1 HL HR0 HR1 HC0 HC1
  have HNO : Aside0 (out.length = no) := ⟨(RN.C HO.out).1⟩
  cases la with
  | nil =>
   obtain rfl : na = 0 := HN.out.1.symm
   have HFIN : Aside0 (joinOf l0 l1 = some (out ++ [] ++ lb)) := ⟨by rw [← HJ.out, joinOf_nil]; simp⟩
   go_wp2_with (first | (at_builtin; refine app_rows Tryz.underlying23 w.heap.size rfl (.tmp 75) (.tmp 76) rfl (.slice Ao no co) out [] Aa 0 ca rfl rfl HO.out (Kd.C_below HCA.out HB.out) HB.out.size (by have := HN.out; have := HNO.out; omega) ?_; intro v8 W8 hr8 hg8) | (at_builtin; refine app_rows Tryz.underlying23 w.heap.size rfl (.tmp 77) (.tmp 78) rfl v8 (out ++ []) lb Ab nb cb rfl rfl hr8 (Kd.C_below HCB.out (grown_below HB.out HO.out hg8)) (grown_below HB.out HO.out hg8).size (by have := HN.out; have := HNO.out; have h9 := HN.out.1; rw [List.length_append]; omega) ?_; intro v9 W9 hr9 hg9) | fail)
   go_ret2
   have hfin := HRJ.out
   rw [HFIN.out] at hfin
   cases hfin
   exact ⟨_, rfl, hr9, grown_below (grown_below HB.out HO.out hg8) hr8 hg9⟩
  | cons x la =>
   have HNA : Aside0 (0 < na) := ⟨by have := HN.out.1; simp only [List.length_cons] at this; omega⟩
   have hg1 : decide ((na : Int) > 0) = true := decide_eq_true (by have := HNA.out; omega)
   have hg2 : decide (0 < na) = true := decide_eq_true HNA.out
   cases lb with
   | nil =>
    obtain rfl : nb = 0 := HN.out.2.1.symm
    have HFIN : Aside0 (joinOf l0 l1 = some (out ++ (x :: la) ++ [])) := ⟨by rw [← HJ.out, joinOf_nil2]; simp⟩
    go_wp2_with (first | (at_builtin; refine app_rows Tryz.underlying23 w.heap.size rfl (.tmp 75) (.tmp 76) rfl (.slice Ao no co) out (x :: la) Aa na ca rfl rfl HO.out (Kd.C_below HCA.out HB.out) HB.out.size (by have := HN.out; have := HNO.out; omega) ?_; intro v8 W8 hr8 hg8) | (at_builtin; refine app_rows Tryz.underlying23 w.heap.size rfl (.tmp 77) (.tmp 78) rfl v8 (out ++ (x :: la)) [] Ab 0 cb rfl rfl hr8 (Kd.C_below HCB.out (grown_below HB.out HO.out hg8)) (grown_below HB.out HO.out hg8).size (by have := HN.out; have := HNO.out; have h9 := HN.out.1; rw [List.length_append]; omega) ?_; intro v9 W9 hr9 hg9) | fail)
    go_ret2
    have hfin := HRJ.out
    rw [HFIN.out] at hfin
    cases hfin
    exact ⟨_, rfl, hr9, grown_below (grown_below HB.out HO.out hg8) hr8 hg9⟩
   | cons y lb =>
    have HNB : Aside0 (0 < nb) := ⟨by have := HN.out.2.1; simp only [List.length_cons] at this; omega⟩
    have hg3 : decide ((nb : Int) > 0) = true := decide_eq_true (by have := HNB.out; omega)
    have hg4 : decide (0 < nb) = true := decide_eq_true HNB.out
    obtain ⟨ada, e, _⟩ := node_at HCA.out (Below.refl _ w) 0 x rfl
    subst e
    obtain ⟨adb, e, _⟩ := node_at HCB.out (Below.refl _ w) 0 y rfl
    subst e
    go_wp2_with fail
    clear hg1 hg2 hg3 hg4
    refine AnyOrder.wp_region (by kernel_rfl) (jn5Inv wr.drew ada adb Ao na ca nb cb no co x y _ _ _ _ _ _ _ _ _ _ _ _ _ _ _ _ _ _ _ _ _ _ _ _ _ _ _ _ _ _ _ _ _ _ _ _ _ _ _ _ _ _ _ _ _ _ _ _ _ _ _ _ _ _ _ _ _ _ _ _ _ _ _ _ _ _ _ _ _ _ _ _ _ _ _ _ _) ⟨false, false, false, false, false, false, false, false, false, rfl, rfl, ⟨Below.refl _ _⟩⟩ ?step ?last
    case step =>
     rintro L ac V i ⟨l0, l1, l2, l3, l4, l5, l6, l7, l8, rfl, rfl, HF⟩ hi K hK
     rcases AnyOrder.up hi [0, 4, 1, 2, 3, 5, 6, 7, 8] rfl with rfl | rfl | rfl | rfl | rfl | rfl | rfl | rfl | rfl
     all_goals
      replace hi := AnyOrder.first hi rfl
      repeat (obtain ⟨ha, hi⟩ := hi; first | obtain rfl := ha | clear ha)
      clear hi
      try simp only [sel_true, selv_true] at hK ⊢
     iterate 2
      ·
       refine AnyOrder.wpOp_go rfl (by rfl) ?_
       go_wp2_with fail
       exact ⟨_, _, _, _, _, _, _, _, _, rfl, rfl, HF⟩
     iterate 2
      ·
       have hna := HNA.out
       refine AnyOrder.wpOp_go rfl (by rfl) ?_
       go_wp2_with fail
       exact ⟨_, _, _, _, _, _, _, _, _, rfl, rfl, HF⟩
     ·
      obtain ⟨x0, x1, x2, x3, x4, x5⟩ := node_first HCA.out (below_more HB.out (below_more (below_drew1 (Below.refl _ wr)) HF.out))
      refine AnyOrder.wpOp_go rfl (by rfl) ?_
      go_wp2_with fail
      exact ⟨_, _, _, _, _, _, _, _, _, rfl, rfl, HF⟩
     iterate 2
      ·
       have hnb := HNB.out
       refine AnyOrder.wpOp_go rfl (by rfl) ?_
       go_wp2_with fail
       exact ⟨_, _, _, _, _, _, _, _, _, rfl, rfl, HF⟩
     ·
      obtain ⟨y0, y1, y2, y3, y4, y5⟩ := node_first HCB.out (below_more HB.out (below_more (below_drew1 (Below.refl _ wr)) HF.out))
      refine AnyOrder.wpOp_go rfl (by rfl) ?_
      go_wp2_with fail
      exact ⟨_, _, _, _, _, _, _, _, _, rfl, rfl, HF⟩
     ·
      refine AnyOrder.wpOp_go rfl (by rfl) ?_
      go_wp2_with fail
      refine (dot_Compare.calls 3 x.f0.f0 x.f0.f1 y.f0.f0 y.f0.f1 (dotCmp x.f0 y.f0) V (dotCompare_is 0 x.f0 y.f0)).mono ?_
      rintro e V' ⟨rfl, hb⟩
      exact hK _ _ ⟨_, _, _, _, _, _, _, _, _, rfl, rfl, ⟨below_more HF.out hb⟩⟩
    case last =>
     rintro L ac V ⟨l0, l1, l2, l3, l4, l5, l6, l7, l8, rfl, rfl, HF⟩ hr
     obtain ⟨rfl, rfl, rfl, rfl, rfl, rfl, rfl, rfl, rfl, -⟩ := AnyOrder.alls rfl (by kernel_rfl) hr
     clear hr
     simp only [sel_true, selv_true]
     have HB := Aside0.mk (below_more HB.out (below_more (below_drew1 (Below.refl _ wr)) HF.out))
     have HO := Aside0.mk (RN.below' HO.out (below_more (below_drew1 (Below.refl _ wr)) HF.out))
     have HTA := Aside0.mk (tail_row Tryz.underlying23 HCA.out HN.out.2.2.1)
     have HTB := Aside0.mk (tail_row Tryz.underlying23 HCB.out HN.out.2.2.2.1)
     have HLA : Aside0 (na = la.length + 1 ∧ nb = lb.length + 1) := ⟨HN.out.1.symm, HN.out.2.1.symm⟩
     have HJC := Aside0.mk (joinOf_cons x y la lb)
     clear HF
     generalize V = V6 at *
     cases hxy : dotLt x.f0 y.f0 with
     | true =>
      rw [cmp_lt hxy]
      have HJ : Aside0 ((joinOf la (y :: lb)).map ((out ++ [x]) ++ ·) = joinOf l0 l1) := ⟨by
       rw [← HJ.out, HJC.out, if_pos hxy, Option.map_map]
       congr 1
       funext r
       simp⟩
      clear hxy HTB HJC
      obtain ⟨A', c', hC', hc', hT'⟩ := HTA.out
      obtain ⟨na', Hna'⟩ : ∃ n, Aside0 (la.length = n) := ⟨_, ⟨rfl⟩⟩
      rw [Hna'.out] at hC' hc' hT' HLA
      have HC' := Aside0.mk hC'
      have Hc' := Aside0.mk hc'
      have HTS := Aside0.mk hT'
      clear HTA hC' hc' hT'
      go_wp2_with fail
      refine AnyOrder.wp_region (by kernel_rfl) (jn11Inv w ada adb Ao A' na ca nb cb no co na' c' x y out _ _ _ _ _ _ _ _ _ _ _ _ _ _ _ _ _ _ _ _ _ _ _ _ _ _ _ _ _ _ _ _ _ _ _ _ _ _ _ _ _ _ _ _ _ _ _ _ _ _ _ _ _ _ _ _ _ _ _ _ _ _ _ _ _ _ _ _ _ _ _ _ _ _ _ _ _) ⟨false, false, false, false, false, false, false, false, false, false, 0, undef, rfl, rfl, ⟨⟨fun h => (by cases h), fun h => (by cases h), fun h => (by cases h), fun h => (by cases h), below_more HB.out (below_drew1 (Below.refl _ V6)), fun _ => RN.below' HO.out (below_drew1 (Below.refl _ V6)), fun h _ => (by cases h), fun h => (by cases h), fun _ => trivial, fun _ => rfl⟩⟩⟩ ?step ?last
      case step =>
       rintro L ac V i ⟨l0, l1, l2, l3, l4, l5, l6, l7, l8, l9, g, v2, rfl, rfl, HF⟩ hi K hK
       rcases AnyOrder.up hi [0, 1, 2, 3, 4, 5, 6, 7, 8, 9] rfl with rfl | rfl | rfl | rfl | rfl | rfl | rfl | rfl | rfl | rfl
       all_goals
        replace hi := AnyOrder.first hi rfl
        repeat (obtain ⟨ha, hi⟩ := hi; first | obtain rfl := ha | clear ha)
        clear hi
        try simp only [sel_true, selv_true] at hK ⊢
       ·
        obtain rfl : l8 = false := by cases l8 with | false => rfl | true => cases (HF.out.ord8 rfl).2
        (try simp only [selv_false] at hK ⊢)
        refine AnyOrder.wpOp_go rfl (by rfl) ?_
        go_wp2_with fail
        exact ⟨_, _, _, _, _, _, _, _, _, _, g, v2, rfl, rfl, ⟨⟨HF.out.ord5, fun h => (by cases h), HF.out.ord9, HF.out.ord10, HF.out.below, HF.out.r1, HF.out.bx, HF.out.r2, HF.out.kz, HF.out.ordB⟩⟩⟩
       ·
        obtain rfl : l9 = false := by cases l9 with | false => rfl | true => cases (HF.out.ord9 rfl).1
        (try simp only [selv_false] at hK ⊢)
        refine AnyOrder.wpOp_go rfl (by rfl) ?_
        go_wp2_with fail
        exact ⟨_, _, _, _, _, _, _, _, _, _, g, v2, rfl, rfl, ⟨⟨HF.out.ord5, HF.out.ord8, fun h => (by cases h), HF.out.ord10, HF.out.below, HF.out.r1, HF.out.bx, HF.out.r2, HF.out.kz, HF.out.ordB⟩⟩⟩
       ·
        have hna := HNA.out
        refine AnyOrder.wpOp_go rfl (by rfl) ?_
        go_wp2_with fail
        exact ⟨_, _, _, _, _, _, _, _, _, _, g, v2, rfl, rfl, HF⟩
       ·
        obtain ⟨q0, q1, q2, q3, q4, q5⟩ := node_first HCA.out HF.out.below
        refine AnyOrder.wpOp_go rfl (by rfl) ?_
        go_wp2_with fail
        exact ⟨_, _, _, _, _, _, _, _, _, _, g, v2, rfl, rfl, HF⟩
       ·
        obtain rfl : l5 = false := by cases l5 with | false => rfl | true => cases HF.out.ord5 rfl
        obtain rfl : l8 = false := by cases l8 with | false => rfl | true => cases (HF.out.ord8 rfl).1
        have hb1 := below_alloc (Below.refl _ V) (boxN x)
        (try simp only [selv_false] at hK ⊢)
        refine AnyOrder.wpOp_go rfl (by rfl) ?_
        go_wp2_with fail
        exact ⟨_, _, _, _, _, _, _, _, _, _, V.heap.size, v2, rfl, rfl, ⟨⟨fun h => (by cases h), fun h => (by cases h), HF.out.ord9, HF.out.ord10, below_more HF.out.below hb1, fun _ => RN.below' (HF.out.r1 rfl) hb1, fun _ _ => blk_new _ _, fun h => (by cases h), fun _ => trivial, fun _ => rfl⟩⟩⟩
       ·
        obtain rfl : l8 = false := by cases l8 with | false => rfl | true => cases (HF.out.ord8 rfl).1
        have hr1 := HF.out.r1 rfl
        (try simp only [selv_false] at hK ⊢)
        refine AnyOrder.wpOp_go rfl (by rfl) ?_
        refine op_append_rows Tryz.underlying23 w.heap.size rfl (.tmp 57) (.tmp 61) rfl (.slice Ao no co) out [x] (some ⟨g, 0, none⟩) 1 1 rfl rfl hr1 (boxN_C (HF.out.bx rfl rfl)) HF.out.below.size (by have := HNO.out; have := HN.out; omega) ?_
        intro v3 W3 h1 h2 _
        exact hK _ _ ⟨_, _, _, _, _, _, _, _, _, _, g, v3, rfl, rfl, ⟨⟨fun _ => rfl, fun h => (by cases h), HF.out.ord9, HF.out.ord10, grown_below HF.out.below hr1 h2, fun h => (by cases h), fun _ => fun h => (by cases h), fun _ => h1, fun h => (by cases h), HF.out.ordB⟩⟩⟩
       ·
        obtain rfl : l9 = false := by cases l9 with | false => rfl | true => cases (HF.out.ord9 rfl).2
        (try simp only [selv_false] at hK ⊢)
        refine AnyOrder.wpOp_go rfl (by rfl) ?_
        go_wp2_with fail
        exact ⟨_, _, _, _, _, _, _, _, _, _, g, v2, rfl, rfl, ⟨⟨HF.out.ord5, HF.out.ord8, fun h => (by cases h), HF.out.ord10, HF.out.below, HF.out.r1, HF.out.bx, HF.out.r2, HF.out.kz, HF.out.ordB⟩⟩⟩
       ·
        refine AnyOrder.wpOp_go rfl (by rfl) ?_
        refine op_slice 23 (.tmp 63) (some (.const (.int .i64 1))) none rfl rfl rfl rfl (HTS.out V) ?_
        exact hK _ _ ⟨_, _, _, _, _, _, _, _, _, _, g, v2, rfl, rfl, HF⟩
       ·
        refine AnyOrder.wpOp_go rfl (by rfl) ?_
        go_wp2_with fail
        exact ⟨_, _, _, _, _, _, _, _, _, _, g, v2, rfl, rfl, ⟨⟨HF.out.ord5, fun _ => ⟨rfl, rfl⟩, HF.out.ord9, HF.out.ord10, HF.out.below, HF.out.r1, HF.out.bx, HF.out.r2, HF.out.kz, HF.out.ordB⟩⟩⟩
       ·
        refine AnyOrder.wpOp_go rfl (by rfl) ?_
        go_wp2_with fail
        exact ⟨_, _, _, _, _, _, _, _, _, _, g, v2, rfl, rfl, ⟨⟨HF.out.ord5, HF.out.ord8, fun _ => ⟨rfl, rfl⟩, HF.out.ord10, HF.out.below, HF.out.r1, HF.out.bx, HF.out.r2, HF.out.kz, HF.out.ordB⟩⟩⟩
      case last =>
       rintro L ac V ⟨l0, l1, l2, l3, l4, l5, l6, l7, l8, l9, g, v2, rfl, rfl, HF⟩ hr
       obtain ⟨rfl, rfl, rfl, rfl, rfl, rfl, rfl, rfl, rfl, rfl, -⟩ := AnyOrder.alls rfl (by kernel_rfl) hr
       clear hr
       simp only [sel_true, selv_true]
       have HO := Aside0.mk (HF.out.r2 rfl)
       have HB := Aside0.mk HF.out.below
       obtain ⟨A3, c3, rfl⟩ := RN.slice HO.out
       have HL3 : Aside0 ((out ++ [x]).length = no + 1) := ⟨by rw [List.length_append, HNO.out]; rfl⟩
       rw [HL3.out] at HO ⊢
       clear HF
       go_wp2
       go_roundw
       case rel => exact ⟨la, y :: lb, out ++ [x], A', _, A3, na', nb, no + 1, c', cb, c3, rfl, rfl, rfl, ⟨Hna'.out, HN.out.2.1, Hc'.out, HN.out.2.2.2.1, by have := HN.out; have := HLA.out; omega⟩, HC', HCB, HO, ⟨fun z hz => HOK.out.1 z (List.mem_cons_of_mem _ hz), HOK.out.2⟩, HJ, HB⟩
       case measure => have := HLA.out; simp only [lenV]; omega
     | false =>
      cases hyx : dotLt y.f0 x.f0 with
      | true =>
       rw [cmp_gt hxy hyx]
       have HJ : Aside0 ((joinOf (x :: la) lb).map ((out ++ [y]) ++ ·) = joinOf l0 l1) := ⟨by
        rw [← HJ.out, HJC.out, if_neg (by rw [hxy]; decide), if_pos hyx, Option.map_map]
        congr 1
        funext r
        simp⟩
       clear hxy hyx HTA HJC
       obtain ⟨A', c', hC', hc', hT'⟩ := HTB.out
       obtain ⟨nb', Hnb'⟩ : ∃ n, Aside0 (lb.length = n) := ⟨_, ⟨rfl⟩⟩
       rw [Hnb'.out] at hC' hc' hT' HLA
       have HC' := Aside0.mk hC'
       have Hc' := Aside0.mk hc'
       have HTS := Aside0.mk hT'
       clear HTB hC' hc' hT'
       go_wp2_with fail
       refine AnyOrder.wp_region (by kernel_rfl) (jn13Inv w ada adb Ao A' na ca nb cb no co nb' c' x y out _ _ _ _ _ _ _ _ _ _ _ _ _ _ _ _ _ _ _ _ _ _ _ _ _ _ _ _ _ _ _ _ _ _ _ _ _ _ _ _ _ _ _ _ _ _ _ _ _ _ _ _ _ _ _ _ _ _ _ _ _ _ _ _ _ _ _ _ _ _ _ _ _ _ _ _ _) ⟨false, false, false, false, false, false, false, false, false, false, 0, undef, rfl, rfl, ⟨⟨fun h => (by cases h), fun h => (by cases h), fun h => (by cases h), fun h => (by cases h), below_more HB.out (below_drew1 (Below.refl _ V6)), fun _ => RN.below' HO.out (below_drew1 (Below.refl _ V6)), fun h _ => (by cases h), fun h => (by cases h), fun _ => trivial, fun _ => rfl⟩⟩⟩ ?step ?last
       case step =>
        rintro L ac V i ⟨l0, l1, l2, l3, l4, l5, l6, l7, l8, l9, g, v2, rfl, rfl, HF⟩ hi K hK
        rcases AnyOrder.up hi [0, 1, 2, 3, 4, 5, 6, 7, 8, 9] rfl with rfl | rfl | rfl | rfl | rfl | rfl | rfl | rfl | rfl | rfl
        all_goals
         replace hi := AnyOrder.first hi rfl
         repeat (obtain ⟨ha, hi⟩ := hi; first | obtain rfl := ha | clear ha)
         clear hi
         try simp only [sel_true, selv_true] at hK ⊢
        ·
         obtain rfl : l8 = false := by cases l8 with | false => rfl | true => cases (HF.out.ord8 rfl).2
         (try simp only [selv_false] at hK ⊢)
         refine AnyOrder.wpOp_go rfl (by rfl) ?_
         go_wp2_with fail
         exact ⟨_, _, _, _, _, _, _, _, _, _, g, v2, rfl, rfl, ⟨⟨HF.out.ord5, fun h => (by cases h), HF.out.ord9, HF.out.ord10, HF.out.below, HF.out.r1, HF.out.bx, HF.out.r2, HF.out.kz, HF.out.ordB⟩⟩⟩
        ·
         obtain rfl : l9 = false := by cases l9 with | false => rfl | true => cases (HF.out.ord9 rfl).1
         (try simp only [selv_false] at hK ⊢)
         refine AnyOrder.wpOp_go rfl (by rfl) ?_
         go_wp2_with fail
         exact ⟨_, _, _, _, _, _, _, _, _, _, g, v2, rfl, rfl, ⟨⟨HF.out.ord5, HF.out.ord8, fun h => (by cases h), HF.out.ord10, HF.out.below, HF.out.r1, HF.out.bx, HF.out.r2, HF.out.kz, HF.out.ordB⟩⟩⟩
        ·
         have hna := HNB.out
         refine AnyOrder.wpOp_go rfl (by rfl) ?_
         go_wp2_with fail
         exact ⟨_, _, _, _, _, _, _, _, _, _, g, v2, rfl, rfl, HF⟩
        ·
         obtain ⟨q0, q1, q2, q3, q4, q5⟩ := node_first HCB.out HF.out.below
         refine AnyOrder.wpOp_go rfl (by rfl) ?_
         go_wp2_with fail
         exact ⟨_, _, _, _, _, _, _, _, _, _, g, v2, rfl, rfl, HF⟩
        ·
         obtain rfl : l5 = false := by cases l5 with | false => rfl | true => cases HF.out.ord5 rfl
         obtain rfl : l8 = false := by cases l8 with | false => rfl | true => cases (HF.out.ord8 rfl).1
         have hb1 := below_alloc (Below.refl _ V) (boxN y)
         (try simp only [selv_false] at hK ⊢)
         refine AnyOrder.wpOp_go rfl (by rfl) ?_
         go_wp2_with fail
         exact ⟨_, _, _, _, _, _, _, _, _, _, V.heap.size, v2, rfl, rfl, ⟨⟨fun h => (by cases h), fun h => (by cases h), HF.out.ord9, HF.out.ord10, below_more HF.out.below hb1, fun _ => RN.below' (HF.out.r1 rfl) hb1, fun _ _ => blk_new _ _, fun h => (by cases h), fun _ => trivial, fun _ => rfl⟩⟩⟩
        ·
         obtain rfl : l8 = false := by cases l8 with | false => rfl | true => cases (HF.out.ord8 rfl).1
         have hr1 := HF.out.r1 rfl
         (try simp only [selv_false] at hK ⊢)
         refine AnyOrder.wpOp_go rfl (by rfl) ?_
         refine op_append_rows Tryz.underlying23 w.heap.size rfl (.tmp 67) (.tmp 71) rfl (.slice Ao no co) out [y] (some ⟨g, 0, none⟩) 1 1 rfl rfl hr1 (boxN_C (HF.out.bx rfl rfl)) HF.out.below.size (by have := HNO.out; have := HN.out; omega) ?_
         intro v3 W3 h1 h2 _
         exact hK _ _ ⟨_, _, _, _, _, _, _, _, _, _, g, v3, rfl, rfl, ⟨⟨fun _ => rfl, fun h => (by cases h), HF.out.ord9, HF.out.ord10, grown_below HF.out.below hr1 h2, fun h => (by cases h), fun _ => fun h => (by cases h), fun _ => h1, fun h => (by cases h), HF.out.ordB⟩⟩⟩
        ·
         obtain rfl : l9 = false := by cases l9 with | false => rfl | true => cases (HF.out.ord9 rfl).2
         (try simp only [selv_false] at hK ⊢)
         refine AnyOrder.wpOp_go rfl (by rfl) ?_
         go_wp2_with fail
         exact ⟨_, _, _, _, _, _, _, _, _, _, g, v2, rfl, rfl, ⟨⟨HF.out.ord5, HF.out.ord8, fun h => (by cases h), HF.out.ord10, HF.out.below, HF.out.r1, HF.out.bx, HF.out.r2, HF.out.kz, HF.out.ordB⟩⟩⟩
        ·
         refine AnyOrder.wpOp_go rfl (by rfl) ?_
         refine op_slice 23 (.tmp 73) (some (.const (.int .i64 1))) none rfl rfl rfl rfl (HTS.out V) ?_
         exact hK _ _ ⟨_, _, _, _, _, _, _, _, _, _, g, v2, rfl, rfl, HF⟩
        ·
         refine AnyOrder.wpOp_go rfl (by rfl) ?_
         go_wp2_with fail
         exact ⟨_, _, _, _, _, _, _, _, _, _, g, v2, rfl, rfl, ⟨⟨HF.out.ord5, fun _ => ⟨rfl, rfl⟩, HF.out.ord9, HF.out.ord10, HF.out.below, HF.out.r1, HF.out.bx, HF.out.r2, HF.out.kz, HF.out.ordB⟩⟩⟩
        ·
         refine AnyOrder.wpOp_go rfl (by rfl) ?_
         go_wp2_with fail
         exact ⟨_, _, _, _, _, _, _, _, _, _, g, v2, rfl, rfl, ⟨⟨HF.out.ord5, HF.out.ord8, fun _ => ⟨rfl, rfl⟩, HF.out.ord10, HF.out.below, HF.out.r1, HF.out.bx, HF.out.r2, HF.out.kz, HF.out.ordB⟩⟩⟩
       case last =>
        rintro L ac V ⟨l0, l1, l2, l3, l4, l5, l6, l7, l8, l9, g, v2, rfl, rfl, HF⟩ hr
        obtain ⟨rfl, rfl, rfl, rfl, rfl, rfl, rfl, rfl, rfl, rfl, -⟩ := AnyOrder.alls rfl (by kernel_rfl) hr
        clear hr
        simp only [sel_true, selv_true]
        have HO := Aside0.mk (HF.out.r2 rfl)
        have HB := Aside0.mk HF.out.below
        obtain ⟨A3, c3, rfl⟩ := RN.slice HO.out
        have HL3 : Aside0 ((out ++ [y]).length = no + 1) := ⟨by rw [List.length_append, HNO.out]; rfl⟩
        rw [HL3.out] at HO ⊢
        clear HF
        go_wp2
        go_roundw
        case rel => exact ⟨x :: la, lb, out ++ [y], _, A', A3, na, nb', no + 1, ca, c', c3, rfl, rfl, rfl, ⟨HN.out.1, Hnb'.out, HN.out.2.2.1, Hc'.out, by have := HN.out; have := HLA.out; omega⟩, HCA, HC', HO, ⟨HOK.out.1, fun z hz => HOK.out.2 z (List.mem_cons_of_mem _ hz)⟩, HJ, HB⟩
        case measure => have := HLA.out; simp only [lenV]; omega
      | false =>
       rw [cmp_eq hxy hyx]
       have HJC : Aside0 (joinOf (x :: la) (y :: lb) = (mergeN x y).bind fun z => (joinOf la lb).map (z :: ·)) := ⟨by rw [HJC.out, if_neg (by rw [hxy]; decide), if_neg (by rw [hyx]; decide)]⟩
       have HMC := Aside0.mk (fun W => merge_call x y W (HOK.out.1 x (List.mem_cons_self ..)) (HOK.out.2 y (List.mem_cons_self ..)) (dotLt_total hxy hyx))
       clear hxy hyx
       obtain ⟨z, er, HZ⟩ : ∃ z er, Aside0 (mergeV x y = .tuple #[vNode z, .int .i64 er] ∧ ((mergeN x y = some z ∧ er = 0) ∨ (mergeN x y = none ∧ er = 15))) := by
        unfold mergeV
        cases mergeN x y with
        | none => exact ⟨nodeZ, 15, ⟨rfl, .inr ⟨rfl, rfl⟩⟩⟩
        | some z => exact ⟨z, 0, ⟨rfl, .inl ⟨rfl, rfl⟩⟩⟩
       rw [HZ.out.1] at HMC
       go_wp2_with fail
       refine AnyOrder.wp_region (by kernel_rfl) (jn6Inv w ada adb Ao na ca nb cb no co x y z er out _ _ _ _ _ _ _ _ _ _ _ _ _ _ _ _ _ _ _ _ _ _ _ _ _ _ _ _ _ _ _ _ _ _ _ _ _ _ _ _ _ _ _ _ _ _ _ _ _ _ _ _ _ _ _ _ _ _ _ _ _ _ _ _ _ _ _ _ _ _ _ _ _ _ _ _ _) ⟨false, false, false, false, false, false, false, false, false, false, false, false, false, 0, rfl, rfl, ⟨⟨fun h => (by cases h), below_more HB.out (below_drew1 (Below.refl _ V6)), RN.below' HO.out (below_drew1 (Below.refl _ V6)), fun h _ => (by cases h), fun h => (by cases h), fun h => (by cases h)⟩⟩⟩ ?step ?last
       case step =>
        rintro L ac V i ⟨l0, l1, l2, l3, l4, l5, l6, l7, l8, l9, l10, l11, l12, g, rfl, rfl, HF⟩ hi K hK
        rcases AnyOrder.up hi [0, 3, 7, 8, 9, 12, 1, 2, 4, 5, 6, 10, 11] rfl with rfl | rfl | rfl | rfl | rfl | rfl | rfl | rfl | rfl | rfl | rfl | rfl | rfl
        all_goals
         replace hi := AnyOrder.first hi rfl
         repeat (obtain ⟨ha, hi⟩ := hi; first | obtain rfl := ha | clear ha)
         clear hi
         try simp only [sel_true, selv_true] at hK ⊢
        iterate 6
         ·
          refine AnyOrder.wpOp_go rfl (by rfl) ?_
          go_wp2_with fail
          exact ⟨_, _, _, _, _, _, _, _, _, _, _, _, _, g, rfl, rfl, HF⟩
        ·
         have hna := HNA.out
         refine AnyOrder.wpOp_go rfl (by rfl) ?_
         go_wp2_with fail
         exact ⟨_, _, _, _, _, _, _, _, _, _, _, _, _, g, rfl, rfl, HF⟩
        ·
         obtain ⟨q0, q1, q2, q3, q4, q5⟩ := node_first HCA.out HF.out.below
         refine AnyOrder.wpOp_go rfl (by rfl) ?_
         go_wp2_with fail
         exact ⟨_, _, _, _, _, _, _, _, _, _, _, _, _, g, rfl, rfl, HF⟩
        ·
         have hnb := HNB.out
         refine AnyOrder.wpOp_go rfl (by rfl) ?_
         go_wp2_with fail
         exact ⟨_, _, _, _, _, _, _, _, _, _, _, _, _, g, rfl, rfl, HF⟩
        ·
         obtain ⟨q0, q1, q2, q3, q4, q5⟩ := node_first HCB.out HF.out.below
         refine AnyOrder.wpOp_go rfl (by rfl) ?_
         go_wp2_with fail
         exact ⟨_, _, _, _, _, _, _, _, _, _, _, _, _, g, rfl, rfl, HF⟩
        ·
         refine AnyOrder.wpOp_go rfl (by rfl) ?_
         go_wp2_with fail
         refine (HMC.out V).mono ?_
         rintro e V' ⟨rfl, hb⟩
         exact hK _ _ ⟨_, _, _, _, _, _, _, _, _, _, _, _, _, g, rfl, rfl, ⟨⟨HF.out.ord, below_more HF.out.below hb, RN.below' HF.out.r1 hb, fun h k => blk_keep (HF.out.bz h k) hb, fun h => blk_keep (HF.out.bx h) hb, HF.out.ge⟩⟩⟩
        ·
         obtain rfl : l11 = false := by cases l11 with | false => rfl | true => cases HF.out.ord rfl
         have hb1 := below_alloc (Below.refl _ V) boxZ
         refine AnyOrder.wpOp_go rfl (by rfl) ?_
         go_wp2_with fail
         exact ⟨_, _, _, _, _, _, _, _, _, _, _, _, _, V.heap.size, rfl, rfl, ⟨⟨fun h => (by cases h), below_more HF.out.below hb1, RN.below' HF.out.r1 hb1, fun _ _ => blk_new _ _, fun h => (by cases h), fun _ => ⟨HF.out.below.size, fun q hq => Nat.ne_of_lt (RN.lt HF.out.r1 hq)⟩⟩⟩⟩
        ·
         refine AnyOrder.wpOp_go rfl (by rfl) ?_
         refine op_boxNode (.tmp 7) (.tmp 42) rfl rfl (HF.out.bz rfl rfl) z rfl rfl ?_
         intro W4 h1 h2
         exact hK _ _ ⟨_, _, _, _, _, _, _, _, _, _, _, _, _, g, rfl, rfl, ⟨⟨fun _ => rfl, HF.out.below.grown h2 HF.out.below.size (fun k e => by cases e; exact (HF.out.ge rfl).1), RN.keep HF.out.r1 (fun q hq => h2.block q (RN.lt HF.out.r1 hq) (fun e => (HF.out.ge rfl).2 q hq (Option.some.inj e))), fun _ h => (by cases h), fun _ => h1, HF.out.ge⟩⟩⟩
       case last =>
        rintro L ac V ⟨l0, l1, l2, l3, l4, l5, l6, l7, l8, l9, l10, l11, l12, g, rfl, rfl, HF⟩ hr
        obtain ⟨rfl, rfl, rfl, rfl, rfl, rfl, rfl, rfl, rfl, rfl, rfl, rfl, rfl, -⟩ := AnyOrder.alls rfl (by kernel_rfl) hr
        clear hr
        simp only [sel_true, selv_true]
        have HB := Aside0.mk HF.out.below
        have HO := Aside0.mk HF.out.r1
        have HBX := Aside0.mk (HF.out.bx rfl)
        have HGE := Aside0.mk (HF.out.ge rfl)
        clear HF HMC
        rcases HZ.out.2 with ⟨hm, he⟩ | ⟨hm, he⟩
        ·
         subst he
         have HJ : Aside0 ((joinOf la lb).map ((out ++ [z]) ++ ·) = joinOf l0 l1) := ⟨by
          rw [← HJ.out, HJC.out, hm, Option.bind_some, Option.map_map]
          congr 1
          funext r
          simp⟩
         clear HJC hm
         obtain ⟨A', c', hC', hc', hT'⟩ := HTA.out
         obtain ⟨B', d', hD', hd', hU'⟩ := HTB.out
         obtain ⟨na', Hna'⟩ : ∃ n, Aside0 (la.length = n) := ⟨_, ⟨rfl⟩⟩
         obtain ⟨nb', Hnb'⟩ : ∃ n, Aside0 (lb.length = n) := ⟨_, ⟨rfl⟩⟩
         rw [Hna'.out] at hC' hc' hT' HLA
         rw [Hnb'.out] at hD' hd' hU' HLA
         have HC' := Aside0.mk hC'
         have Hc' := Aside0.mk hc'
         have HTS := Aside0.mk hT'
         have HD' := Aside0.mk hD'
         have Hd' := Aside0.mk hd'
         have HTU := Aside0.mk hU'
         clear HTA HTB hC' hc' hT' hD' hd' hU'
         generalize V = V7 at *
         go_wp2_with fail
         refine AnyOrder.wp_region (by kernel_rfl) (jn9Inv w ada adb Ao A' B' na ca nb cb no co na' c' nb' d' g x y z out _ _ _ _ _ _ _ _ _ _ _ _ _ _ _ _ _ _ _ _ _ _ _ _ _ _ _ _ _ _ _ _ _ _ _ _ _ _ _ _ _ _ _ _ _ _ _ _ _ _ _ _ _ _ _ _ _ _ _ _ _ _ _ _ _ _ _ _ _ _ _ _ _ _ _ _) ⟨false, false, false, false, false, false, false, false, false, false, false, 0, undef, rfl, rfl, ⟨⟨fun h => (by cases h), fun h => (by cases h), fun h => (by cases h), fun h => (by cases h), below_more HB.out (below_drew1 (Below.refl _ V7)), fun _ => RN.below' HO.out (below_drew1 (Below.refl _ V7)), fun h _ => (by cases h), fun h => (by cases h), fun _ => blk_keep HBX.out (below_drew1 (Below.refl _ V7)), fun h => (by cases h)⟩⟩⟩ ?step ?last
         case step =>
          rintro L ac V i ⟨l0, l1, l2, l3, l4, l5, l6, l7, l8, l9, l10, g, v2, rfl, rfl, HF⟩ hi K hK
          rcases AnyOrder.up hi [0, 1, 2, 3, 4, 5, 6, 7, 8, 9, 10] rfl with rfl | rfl | rfl | rfl | rfl | rfl | rfl | rfl | rfl | rfl | rfl
          all_goals
           replace hi := AnyOrder.first hi rfl
           repeat (obtain ⟨ha, hi⟩ := hi; first | obtain rfl := ha | clear ha)
           clear hi
           try simp only [sel_true, selv_true] at hK ⊢
          ·
           obtain rfl : l8 = false := by cases l8 with | false => rfl | true => cases (HF.out.ord8 rfl).2
           (try simp only [selv_false] at hK ⊢)
           refine AnyOrder.wpOp_go rfl (by rfl) ?_
           go_wp2_with fail
           exact ⟨_, _, _, _, _, _, _, _, _, _, _, g, v2, rfl, rfl, ⟨⟨HF.out.ord5, fun h => (by cases h), HF.out.ord9, HF.out.ord10, HF.out.below, HF.out.r1, HF.out.bx, HF.out.r2, HF.out.kz, HF.out.ordB⟩⟩⟩
          ·
           obtain rfl : l2 = false := by cases l2 with | false => rfl | true => cases HF.out.ordB rfl
           obtain rfl : l3 = false := by cases l3 with | false => rfl | true => cases HF.out.ord5 rfl
           (try simp only [selv_false] at hK ⊢)
           obtain ⟨q0, q1, q2, q3, q4, q5⟩ := box_six (HF.out.kz rfl)
           refine AnyOrder.wpOp_go rfl (by rfl) ?_
           go_wp2_with fail
           exact ⟨_, _, _, _, _, _, _, _, _, _, _, g, v2, rfl, rfl, ⟨⟨HF.out.ord5, HF.out.ord8, HF.out.ord9, HF.out.ord10, HF.out.below, HF.out.r1, HF.out.bx, HF.out.r2, HF.out.kz, fun _ => rfl⟩⟩⟩
          ·
           obtain rfl : l3 = false := by cases l3 with | false => rfl | true => cases HF.out.ord5 rfl
           obtain rfl : l8 = false := by cases l8 with | false => rfl | true => cases (HF.out.ord8 rfl).1
           have hb1 := below_alloc (Below.refl _ V) (boxN z)
           (try simp only [selv_false] at hK ⊢)
           refine AnyOrder.wpOp_go rfl (by rfl) ?_
           go_wp2_with fail
           exact ⟨_, _, _, _, _, _, _, _, _, _, _, V.heap.size, v2, rfl, rfl, ⟨⟨fun h => (by cases h), fun h => (by cases h), HF.out.ord9, HF.out.ord10, below_more HF.out.below hb1, fun _ => RN.below' (HF.out.r1 rfl) hb1, fun _ _ => blk_new _ _, fun h => (by cases h), fun _ => blk_keep (HF.out.kz rfl) hb1, fun _ => rfl⟩⟩⟩
          ·
           obtain rfl : l8 = false := by cases l8 with | false => rfl | true => cases (HF.out.ord8 rfl).1
           have hr1 := HF.out.r1 rfl
           (try simp only [selv_false] at hK ⊢)
           refine AnyOrder.wpOp_go rfl (by rfl) ?_
           refine op_append_rows Tryz.underlying23 w.heap.size rfl (.tmp 47) (.tmp 49) rfl (.slice Ao no co) out [z] (some ⟨g, 0, none⟩) 1 1 rfl rfl hr1 (boxN_C (HF.out.bx rfl rfl)) HF.out.below.size (by have := HNO.out; have := HN.out; omega) ?_
           intro v3 W3 h1 h2 _
           exact hK _ _ ⟨_, _, _, _, _, _, _, _, _, _, _, g, v3, rfl, rfl, ⟨⟨fun _ => rfl, fun h => (by cases h), HF.out.ord9, HF.out.ord10, grown_below HF.out.below hr1 h2, fun h => (by cases h), fun _ => fun h => (by cases h), fun _ => h1, fun h => (by cases h), HF.out.ordB⟩⟩⟩
          ·
           obtain rfl : l9 = false := by cases l9 with | false => rfl | true => cases (HF.out.ord9 rfl).1
           (try simp only [selv_false] at hK ⊢)
           refine AnyOrder.wpOp_go rfl (by rfl) ?_
           go_wp2_with fail
           exact ⟨_, _, _, _, _, _, _, _, _, _, _, g, v2, rfl, rfl, ⟨⟨HF.out.ord5, HF.out.ord8, fun h => (by cases h), HF.out.ord10, HF.out.below, HF.out.r1, HF.out.bx, HF.out.r2, HF.out.kz, HF.out.ordB⟩⟩⟩
          ·
           refine AnyOrder.wpOp_go rfl (by rfl) ?_
           refine op_slice 23 (.tmp 51) (some (.const (.int .i64 1))) none rfl rfl rfl rfl (HTS.out V) ?_
           exact hK _ _ ⟨_, _, _, _, _, _, _, _, _, _, _, g, v2, rfl, rfl, HF⟩
          ·
           obtain rfl : l10 = false := by cases l10 with | false => rfl | true => cases HF.out.ord10 rfl
           (try simp only [selv_false] at hK ⊢)
           refine AnyOrder.wpOp_go rfl (by rfl) ?_
           go_wp2_with fail
           exact ⟨_, _, _, _, _, _, _, _, _, _, _, g, v2, rfl, rfl, ⟨⟨HF.out.ord5, HF.out.ord8, HF.out.ord9, fun h => (by cases h), HF.out.below, HF.out.r1, HF.out.bx, HF.out.r2, HF.out.kz, HF.out.ordB⟩⟩⟩
          ·
           refine AnyOrder.wpOp_go rfl (by rfl) ?_
           refine op_slice 23 (.tmp 53) (some (.const (.int .i64 1))) none rfl rfl rfl rfl (HTU.out V) ?_
           exact hK _ _ ⟨_, _, _, _, _, _, _, _, _, _, _, g, v2, rfl, rfl, HF⟩
          ·
           refine AnyOrder.wpOp_go rfl (by rfl) ?_
           go_wp2_with fail
           exact ⟨_, _, _, _, _, _, _, _, _, _, _, g, v2, rfl, rfl, ⟨⟨HF.out.ord5, fun _ => ⟨rfl, rfl⟩, HF.out.ord9, HF.out.ord10, HF.out.below, HF.out.r1, HF.out.bx, HF.out.r2, HF.out.kz, HF.out.ordB⟩⟩⟩
          ·
           refine AnyOrder.wpOp_go rfl (by rfl) ?_
           go_wp2_with fail
           exact ⟨_, _, _, _, _, _, _, _, _, _, _, g, v2, rfl, rfl, ⟨⟨HF.out.ord5, HF.out.ord8, fun _ => ⟨rfl, rfl⟩, HF.out.ord10, HF.out.below, HF.out.r1, HF.out.bx, HF.out.r2, HF.out.kz, HF.out.ordB⟩⟩⟩
          ·
           refine AnyOrder.wpOp_go rfl (by rfl) ?_
           go_wp2_with fail
           exact ⟨_, _, _, _, _, _, _, _, _, _, _, g, v2, rfl, rfl, ⟨⟨HF.out.ord5, HF.out.ord8, HF.out.ord9, fun _ => rfl, HF.out.below, HF.out.r1, HF.out.bx, HF.out.r2, HF.out.kz, HF.out.ordB⟩⟩⟩
         case last =>
          rintro L ac V ⟨l0, l1, l2, l3, l4, l5, l6, l7, l8, l9, l10, g, v2, rfl, rfl, HF⟩ hr
          obtain ⟨rfl, rfl, rfl, rfl, rfl, rfl, rfl, rfl, rfl, rfl, rfl, -⟩ := AnyOrder.alls rfl (by kernel_rfl) hr
          clear hr
          simp only [sel_true, selv_true]
          have HO := Aside0.mk (HF.out.r2 rfl)
          have HB := Aside0.mk HF.out.below
          obtain ⟨A3, c3, rfl⟩ := RN.slice HO.out
          have HL3 : Aside0 ((out ++ [z]).length = no + 1) := ⟨by rw [List.length_append, HNO.out]; rfl⟩
          rw [HL3.out] at HO ⊢
          clear HF
          go_wp2
          go_roundw
          case rel => exact ⟨la, lb, out ++ [z], A', B', A3, na', nb', no + 1, c', d', c3, rfl, rfl, rfl, ⟨Hna'.out, Hnb'.out, Hc'.out, Hd'.out, by have := HN.out; have := HLA.out; omega⟩, HC', HD', HO, ⟨fun z hz => HOK.out.1 z (List.mem_cons_of_mem _ hz), fun z hz => HOK.out.2 z (List.mem_cons_of_mem _ hz)⟩, HJ, HB⟩
          case measure => have := HLA.out; simp only [lenV]; omega
        ·
         subst he
         have HJN : Aside0 (joinOf l0 l1 = none) := ⟨by rw [← HJ.out, HJC.out, hm]; rfl⟩
         go_wp2
         go_ret2
         have hfin := HRJ.out
         rw [HJN.out] at hfin
         cases hfin
         exact ⟨_, rfl, Kd.R_nil _ _ _ _ _, HB.out⟩
end Go.Proofs.YtmbndijbpgobeaaGreat.PWalk
end
section
namespace Go.Proofs.YtmbndijbpgobeaaGreat.PWalk
open Go.RowKit Go.Proofs.YtmbndijbpgobeaaGreatW.PrintWords Go.Proofs.YtmbndijbpgobeaaGreatW.PrintLast Go.Proofs.YtmbndijbpgobeaaGreatW.PrintMore
set_option linter.unusedVariables false
set_option linter.unusedSimpArgs false
open Go.Shelf
attribute [local go_sem] Oper.semAt_some
theorem intRow_C {W : World} {g t : Nat} {ik : IntKind} (xs : List Int) (cs : Array Value) (hcs : cs.toList = xs.map (Value.int ik)) (h : W.heap[g]? = some (.cells cs t (0, 0))) (hn : xs.length ≤ 1000000) : Kd.C (Kd.int ik) W (some ⟨g, 0, none⟩) xs.length xs := by
 refine ⟨rfl, by omega, fun _ => ⟨_, rfl, fun i y hi => ⟨[.int ik y], rfl, rfl, fun j u hu => ?_⟩⟩⟩
 have hj : j = 0 := by
  cases j with
  | zero => rfl
  | succ j => simp at hu
 subst hj
 simp at hu
 subst hu
 rw [show (⟨g, 0, none⟩ : Addr).add (i * (Kd.int ik).sz + 0) = ⟨g, i, none⟩ by rw [add_lit]; simp [Kd.int, Kd.scalar]]
 rw [blk_cell h, ← Array.getElem?_toList, hcs, List.getElem?_map, hi]
 rfl
theorem del_filter (l : List Node) (ds : List Dot) : (l.map (deadD ds)).filter (fun x => decide (x.f0 ∈ ds)) = (l.filter fun x => decide (x.f0 ∈ ds)).map deadN := by
 induction l with
 | nil => rfl
 | cons x l ih =>
  rw [List.map_cons, List.filter_cons, List.filter_cons, deadD_dot, ih]
  by_cases h : x.f0 ∈ ds
  ·
   rw [if_pos (decide_eq_true h), if_pos (decide_eq_true h), List.map_cons]
   unfold deadD
   rw [if_pos h]
  ·
   rw [if_neg (by simpa using h), if_neg (by simpa using h)]
theorem span_zero {l : List Node} {a n : Int} (h : spanE l a n = 0) : faultsOf l = [] ∧ 0 ≤ a ∧ 0 ≤ n ∧ a ≤ ((visOf l).length : Int) ∧ n ≤ ((visOf l).length : Int) - a := by
 unfold spanE at h
 by_cases h1 : faultsOf l = []
 ·
  rw [if_pos h1] at h
  by_cases h2 : a < 0 ∨ n < 0 ∨ a > ((visOf l).length : Int) ∨ n > ((visOf l).length : Int) - a
  ·
   rw [if_pos h2] at h; cases h
  ·
   exact ⟨h1, by omega, by omega, by omega, by omega⟩
 ·
  rw [if_neg h1] at h; cases h
theorem first_del (l : List Node) (a n er : Int) (h : firstE [spanE l a n, if decide (n > 10000) = true then 5 else 0] = er) : (er ≠ 0 → delE l a n = ([], er)) ∧ (er = 0 → spanE l a n = 0 ∧ ¬ n > 10000) := by
 subst h
 unfold delE
 simp only [firstE]
 by_cases h1 : spanE l a n = 0
 ·
  rw [if_pos h1]
  by_cases h2 : n > 10000
  ·
   rw [if_pos (decide_eq_true h2), if_neg (by decide), if_neg (by rw [h1]; simp), if_pos h2]
   exact ⟨fun _ => rfl, fun h => by cases h⟩
  ·
   rw [if_neg (show ¬ decide (n > 10000) = true by simpa using h2), if_pos rfl]
   exact ⟨fun h => absurd rfl h, fun _ => ⟨h1, h2⟩⟩
 ·
  rw [if_neg h1, if_pos h1]
  exact ⟨fun _ => rfl, fun h => absurd h h1⟩
theorem del_none {l : List Node} {a n : Int} (h : spanE l a n = 0) (h2 : n = 0) : delE l a n = ([], 0) := by
 subst h2
 unfold delE
 rw [if_neg (by rw [h]; simp), if_neg (by decide)]
 have : cutV l a 0 = [] := by
  unfold cutV
  rw [Int.add_zero, List.drop_eq_nil_iff, List.length_take]
  omega
 rw [this]
 simp
theorem del_some {l : List Node} {a n : Int} (h : spanE l a n = 0) (h2 : ¬ n > 10000) : delE l a n = ((l.filter fun x => decide (x.f0 ∈ (cutV l a n).map (·.f0))).map deadN, 0) := by
 unfold delE
 rw [if_neg (by rw [h]; simp), if_neg h2]
theorem filter_take_succ {l : List Node} {k : Nat} {x : Node} (p : Node → Bool) (h : l[k]? = some x) : (l.take (k + 1)).filter p = (l.take k).filter p ++ if p x = true then [x] else [] := by
 obtain ⟨hk, e⟩ := List.getElem?_eq_some_iff.1 h
 rw [List.take_succ_eq_append_getElem hk, List.filter_append, e, List.filter_cons]
 split <;> simp_all
set_option maxHeartbeats 4000000 in
set_option maxRecDepth 100000 in
theorem edit_Delete.calls (A0 : Option Addr) (c0 : Nat) (l0 : List Node) (a1 a2 : Int) (r1 : List Node) (r2 : Int) (w : World) (hr0 : Kd.C k53 w A0 l0.length l0) (hc0 : l0.length ≤ c0) (h : edit_Delete.f l0 a1 a2 = some (r1, r2)) :
  Calls Tryz.prog 19 #[.slice A0 l0.length c0, .int .i64 a1, .int .i64 a2] w fun e w' => ∃ v0_ : Value, e = .returned (.tuple #[v0_, .int .i64 r2]) ∧ Kd.R k53 53 w' w.heap.size (fun _ => True) v0_ r1 ∧ Below w.heap.size w w' := by
 unfold edit_Delete.f at h
 by_cases hl : l0.length ≤ 400000
 rotate_left
 ·
  rw [if_neg hl] at h; cases h
 rw [if_pos hl] at h
 have HRES := Aside0.mk (Option.some.inj h)
 have HL := Aside0.mk hl
 have HR := Aside0.mk hr0
 have HC := Aside0.mk hc0
 obtain ⟨n, Hn⟩ : ∃ n, Aside0 (l0.length = n) := ⟨_, ⟨rfl⟩⟩
 obtain ⟨sp, Hsp⟩ : ∃ s, Aside0 (spanE l0 a1 a2 = s) := ⟨_, ⟨rfl⟩⟩
 obtain ⟨bg, Hbg⟩ : ∃ b, Aside0 (decide (a2 > 10000) = b) := ⟨_, ⟨rfl⟩⟩
 obtain ⟨wl, Hwl⟩ : ∃ q : Int, Aside0 ((if bg = true then 5 else 0) = q) := ⟨_, ⟨rfl⟩⟩
 obtain ⟨er, Her⟩ : ∃ q : Int, Aside0 (firstE [sp, wl] = q) := ⟨_, ⟨rfl⟩⟩
 have HF := Aside0.mk (first_del l0 a1 a2 er (by rw [Hsp.out, Hbg.out, Hwl.out]; exact Her.out))
 have hcall := edit_span.calls 3 A0 c0 l0 a1 a2 sp w hr0 hc0 (by rw [span_is (by omega) a1 a2 (Nat.le_refl 3), Hsp.out])
 have hu := Tryz.underlying53
 have hu2 := Tryz.underlying25
 rw [Hn.out] at hcall ⊢
 have HCALL := Aside0.mk hcall
 have HRN : Aside0 (Kd.C k53 w A0 n l0) := ⟨by have := HR.out; rwa [Hn.out] at this⟩
 clear hcall h hl hr0 hc0
 go_enter Tryz.func19, Tryz.ntmps19
 go_wp2_with fail
 refine HCALL.out.mono ?_
 rintro e V1 ⟨rfl, hb⟩
 have HB := Aside0.mk hb
 have hb1 : decide (a2 > 10000) = bg := Hbg.out
 have hb2 : decide (10000 < a2) = bg := Hbg.out
 clear hb HCALL
 go_wp2_with fail
 refine (edit_when.calls bg 5 wl V1 (by rw [ewhen_is, Hwl.out])).mono ?_
 rintro e V2 ⟨rfl, hd⟩
 have HB := Aside0.mk (below_more HB.out (Gr.drawn hd).below)
 clear hb1 hb2 hd
 go_wp2_with fail
 refine (edit_first.calls 3 _ 2 [sp, wl] er _ (intRow_C [sp, wl] _ rfl (blk_new _ _) (by simp)) (Nat.le_refl _) (by rw [efirst_is _ (by simp) (by simp), Her.out])).mono ?_
 rintro e V3 ⟨rfl, hd⟩
 have HB := Aside0.mk (below_more HB.out (below_more (below_alloc (Below.refl _ V2) _) (Gr.drawn hd).below))
 clear hd
 by_cases he : er = 0
 rotate_left
 ·
  have hne : (er == 0) = false := beq_eq_false_iff_ne.2 he
  have HE := Aside0.mk (HF.out.1 he)
  clear he
  go_wp2
  go_ret2
  have h := HRES.out
  rw [HE.out] at h
  cases h
  exact ⟨_, rfl, Kd.R_nil _ _ _ _ _, HB.out⟩
 subst he
 have HZ := Aside0.mk (HF.out.2 rfl)
 have HS := Aside0.mk (span_zero HZ.out.1)
 have HST := Aside0.mk (well_store HS.out.1)
 have HVL : Aside0 ((visOf l0).length ≤ 400000) := ⟨Nat.le_trans (vis_len HST.out) HL.out⟩
 have HW : Aside0 (wrap64 (a1 + a2) = a1 + a2) := ⟨by have := HS.out; have := HVL.out; unfold wrap64; omega⟩
 obtain ⟨ds, Hds⟩ : ∃ ds, Aside0 ((cutV l0 a1 a2).map (·.f0) = ds) := ⟨_, ⟨rfl⟩⟩
 obtain ⟨m, Hm⟩ : ∃ m, Aside0 (ds.length = m) := ⟨_, ⟨rfl⟩⟩
 have HML : Aside0 (m ≤ 400000) := ⟨by rw [← Hm.out, ← Hds.out, List.length_map]; exact Nat.le_trans (cut_sub l0 a1 a2).length_le HVL.out⟩
 have hcall := index_Dots.calls A0 c0 l0 a1 (a1 + a2) ds 0 V3 (Kd.C_below HR.out HB.out) HC.out (by
  unfold index_Dots.f
  rw [if_pos (by have := HL.out; omega), if_pos HST.out, if_neg (by have := HS.out; omega), ← Hds.out]
  rfl)
 rw [Hn.out] at hcall
 have HCALL := Aside0.mk hcall
 clear hcall
 go_wp2_with fail
 rw [HW.out]
 refine HCALL.out.mono ?_
 rintro e V4 ⟨v4, rfl, hr4, hb⟩
 have HB := Aside0.mk (below_more HB.out hb)
 obtain ⟨A4, c4, rfl⟩ := RD.slice hr4
 have HD := Aside0.mk (Kd.R_reads' hr4).2
 clear hb HCALL hr4
 rw [Hm.out] at HD ⊢
 by_cases h0 : a2 = 0
 ·
  have HE := Aside0.mk (del_none HZ.out.1 h0)
  have hg : (a2 == 0) = true := beq_iff_eq.2 h0
  clear h0
  go_wp2
  go_ret2
  have h := HRES.out
  rw [HE.out] at h
  cases h
  exact ⟨_, rfl, Kd.R_nil _ _ _ _ _, HB.out⟩
 have hg : (a2 == 0) = false := beq_eq_false_iff_ne.2 h0
 have HDE := Aside0.mk (del_some HZ.out.1 (by have := HZ.out.2; omega))
 rw [Hds.out, ← del_filter] at HDE
 clear h0
 obtain ⟨M, HM⟩ : ∃ M, Aside0 (l0.map (deadD ds) = M) := ⟨_, ⟨rfl⟩⟩
 have HMn : Aside0 (M.length = n) := ⟨by rw [← HM.out, List.length_map, Hn.out]⟩
 rw [HM.out] at HDE
 have hcall := store_Kill.calls A0 c0 l0 A4 c4 ds M 0 V4 (Kd.C_below HR.out HB.out) HC.out (by rw [Hm.out]; exact HD.out.2) (by rw [Hm.out]; exact HD.out.1) (by rw [← Hds.out, kill_cut (by have := HL.out; omega) HST.out, Hds.out, HM.out])
 rw [Hn.out, Hm.out] at hcall
 have HCALL := Aside0.mk hcall
 clear hcall
 go_wp2_with fail
 clear hg
 refine HCALL.out.mono ?_
 rintro e V5 ⟨v5, rfl, hr5, hb⟩
 have HB := Aside0.mk (below_more HB.out hb)
 have HD := Aside0.mk (show m ≤ c4 ∧ Kd.C k25 V5 A4 m ds from ⟨HD.out.1, Kd.C_below HD.out.2 hb⟩)
 obtain ⟨A5, c5, rfl⟩ := Kd.R_slice hr5
 have HK := Aside0.mk (Kd.R_reads' hr5).2
 clear hb HCALL hr5
 rw [HMn.out] at HK ⊢
 have HSC := Aside0.mk (setD_call A4 m c4 ds V5 Hm.out HD.out.2 (by have := HML.out; omega) (by rw [← Hds.out]; exact cut_nodup HST.out a1 a2))
 go_wp2_with fail
 refine HSC.out.mono ?_
 rintro e V6 ⟨v6, ys, rfl, hr6, hi6, hp6, hb⟩
 have HB := Aside0.mk (below_more HB.out hb)
 have HK := Aside0.mk (show n ≤ c5 ∧ Kd.C k53 V6 A5 n M from ⟨HK.out.1, Kd.C_below HK.out.2 hb⟩)
 obtain ⟨A6, c6, rfl⟩ := RD.slice hr6
 have HYL : Aside0 (ys.length = m) := ⟨by rw [hp6.length_eq, Hm.out]⟩
 have HYI := Aside0.mk hi6
 have HYP := Aside0.mk hp6
 rw [HYL.out] at hr6 ⊢
 have HY := Aside0.mk hr6
 clear hb HSC HD hr6 hi6 hp6
 go_wp2_with fail
 go_loopw [12, 58] (fun s i wr => ∃ (k : Nat) (Ao : Option Addr) (no co : Nat), s = .slice Ao no co ∧ i = .int .i64 k ∧ k ≤ n ∧ Aside0 (RN wr V6.heap.size (.slice Ao no co) ((M.take k).filter fun x => decide (x.f0 ∈ ds))) ∧ Aside0 (Below V6.heap.size V6 wr)) (fun _ i _ => n - (intOf i).toNat)
 case atStart => exact ⟨0, none, 0, 0, rfl, rfl, Nat.zero_le _, ⟨Kd.R_nil _ _ _ _ _⟩, ⟨Below.refl _ _⟩⟩
 case round =>
  obtain ⟨k, Ao, no, co, rfl, rfl, hk, HO, HBB⟩ := hrel
  have HN4 : Aside0 (n ≤ 400000) := ⟨by rw [← Hn.out]; exact HL.out⟩
  by_cases hlt : k < n
  ·
   obtain ⟨x, Hx⟩ : ∃ x, Aside0 (M[k]? = some x) := ⟨_, ⟨List.getElem?_eq_getElem (by rw [HMn.out]; exact hlt)⟩⟩
   have HST := Aside0.mk (filter_take_succ (fun x => decide (x.f0 ∈ ds)) Hx.out)
   obtain ⟨ad, e, h0, h1, h2, h3, h4, h5⟩ := node_at HK.out.2 HBB.out k x Hx.out
   subst e
   have HX := Aside0.mk (blk_new wr (boxN x))
   have HBX := Aside0.mk (below_alloc (Below.refl _ wr) (boxN x))
   have HNO : Aside0 (no ≤ 400000) := ⟨by
    have h1 := (RN.C HO.out).1
    have h2 := List.length_filter_le (fun x : Node => decide (x.f0 ∈ ds)) (M.take k)
    rw [List.length_take] at h2
    have h3 := HN4.out
    omega⟩
   have HEN := Aside0.mk (EntsD.of (RD.below' HY.out (below_more HBB.out HBX.out)) (by rw [HYL.out]; have := HML.out; omega))
   have HSR := Aside0.mk (bsearchD_call ys A6 m c6 x.f0 (wr.alloc (boxN x)) HYI.out HEN.out)
   obtain ⟨b, Hb⟩ : ∃ b, Aside0 (decide (x.f0 ∈ ds) = b) := ⟨_, ⟨rfl⟩⟩
   have HHK : Aside0 (hasK ys x.f0 = b) := ⟨by
    rw [← Hb.out, Bool.eq_iff_iff, hasK_iff HYI.out, HYP.out.mem_iff, decide_eq_true_eq]⟩
   rw [HHK.out] at HSR
   go_wp2_with fail
   clear h0 h1 h2 h3 h4 h5
   refine HSR.out.mono ?_
   rintro e W2 ⟨rfl, hb⟩
   have HX := Aside0.mk (blk_keep HX.out hb)
   have HBX := Aside0.mk (below_more HBX.out hb)
   have HBB := Aside0.mk (below_more HBB.out HBX.out)
   have HO := Aside0.mk (RN.below' HO.out HBX.out)
   clear hb HSR HEN
   cases b with
   | false =>
    have HO : Aside0 (RN W2 V6.heap.size (.slice Ao no co) ((M.take (k + 1)).filter fun x => decide (x.f0 ∈ ds))) := ⟨by rw [HST.out, Hb.out]; simpa using HO.out⟩
    have hn4 := HN4.out
    go_wp2
    go_roundw
    case rel => exact ⟨k + 1, Ao, no, co, rfl, by go_num, by omega, HO, HBB⟩
    case measure => simp [intOf]; omega
   | true =>
    obtain ⟨x0, x1, x2, x3, x4, x5⟩ := box_cells HX.out
    have HBA := Aside0.mk (below_alloc (Below.refl _ W2) (boxN x))
    have HXA := Aside0.mk (blk_new W2 (boxN x))
    have hn4 := HN4.out
    go_wp2_with (at_builtin; refine app_rows Tryz.underlying23 V6.heap.size rfl (.tmp 70) (.tmp 72) rfl (.slice Ao no co) ((M.take k).filter fun x => decide (x.f0 ∈ ds)) [x] (some ⟨W2.heap.size, 0, none⟩) 1 1 rfl rfl (RN.below' HO.out HBA.out) (boxN_C HXA.out) (Nat.le_trans HBB.out.size HBA.out.size) (by have h1 := (RN.C HO.out).1; have h2 := HNO.out; omega) ?_; intro v9 W9 hr9 hg9)
    clear x0 x1 x2 x3 x4 x5
    have HBB := Aside0.mk (grown_below (below_more HBB.out HBA.out) (RN.below' HO.out HBA.out) hg9)
    obtain ⟨A9, c9, rfl⟩ := RN.slice hr9
    obtain ⟨n9, Hn9⟩ : ∃ q, Aside0 ((((M.take k).filter fun x => decide (x.f0 ∈ ds)) ++ [x]).length = q) := ⟨_, ⟨rfl⟩⟩
    rw [Hn9.out] at hr9 ⊢
    have HO : Aside0 (RN W9 V6.heap.size (.slice A9 n9 c9) ((M.take (k + 1)).filter fun x => decide (x.f0 ∈ ds))) := ⟨by rw [HST.out, Hb.out]; exact hr9⟩
    clear hr9 hg9
    go_wp2
    go_roundw
    case rel => exact ⟨k + 1, A9, n9, c9, rfl, by go_num, by omega, HO, HBB⟩
    case measure => simp [intOf]; omega
  ·
   obtain rfl : k = n := by omega
   rw [List.take_of_length_le (Nat.le_of_eq HMn.out)] at HO
   go_wp2
   go_ret2
   have h := HRES.out
   rw [HDE.out] at h
   cases h
   exact ⟨_, rfl, Kd.R_lower HO.out HB.out.size, below_more HB.out HBB.out⟩
end Go.Proofs.YtmbndijbpgobeaaGreat.PWalk
end
section
namespace Go.Proofs.YtmbndijbpgobeaaGreat.PWalk
open Go.RowKit Go.Proofs.YtmbndijbpgobeaaGreatW.PrintWords Go.Proofs.YtmbndijbpgobeaaGreatW.PrintLast Go.Proofs.YtmbndijbpgobeaaGreatW.PrintMore
set_option linter.unusedVariables false
set_option linter.unusedSimpArgs false
open Go.Shelf
attribute [local go_sem] Oper.semAt_some
theorem rune_at {w wr : World} {A : Option Addr} {n : Nat} {xs : List Int} (h : Kd.C (Kd.int .i32) w A n xs) (hb : Below w.heap.size w wr) (k : Nat) (x : Int) (hk : xs[k]? = some x) :
  ∃ ad, A = some ad ∧ wr.cell? (ad.add k) = some (.int .i32 x) := by
 have hl := Kd.C_len h
 have hlt := (List.getElem?_eq_some_iff.1 hk).1
 obtain ⟨ad, e, h0⟩ := Kd.at_int h (k : Int) (by omega) (by omega)
 have hd : rd xs (k : Int) = x := by simp [rd, hk]
 rw [hd] at h0
 simp only [Int.toNat_natCast] at h0
 exact ⟨ad, e, pw_cell_below hb h0⟩
def idxR (p : Int → Bool) (l : List Int) : Int := match l.findIdx? p with | some i => (i : Int) | none => -1
theorem idxR_at {p : Int → Bool} {l : List Int} {k : Nat} {x : Int} (hk : l[k]? = some x) (hx : p x = true) (hno : ∀ j y, j < k → l[j]? = some y → p y = false) : idxR p l = k := by
 unfold idxR
 rw [List.findIdx?_eq_some_iff_getElem.2 ⟨(List.getElem?_eq_some_iff.1 hk).1, by rw [(List.getElem?_eq_some_iff.1 hk).2]; exact hx, fun j hj => by rw [hno j _ hj (List.getElem?_eq_getElem _)]; simp⟩]
theorem idxR_none {p : Int → Bool} {l : List Int} (hno : ∀ j y, j < l.length → l[j]? = some y → p y = false) : idxR p l = -1 := by
 unfold idxR
 rw [List.findIdx?_eq_none_iff.2 fun x hx => by
  obtain ⟨j, hj⟩ := List.getElem?_of_mem hx
  exact hno j x (List.getElem?_eq_some_iff.1 hj).1 hj]
theorem noR_step {p : Int → Bool} {l : List Int} {k : Nat} {x : Int} (hk : l[k]? = some x) (hx : p x = false) (hno : ∀ j y, j < k → l[j]? = some y → p y = false) : ∀ j y, j < k + 1 → l[j]? = some y → p y = false := by
 intro j y hj hy
 rcases Nat.lt_succ_iff_lt_or_eq.1 hj with h | h
 ·
  exact hno j y h hy
 ·
  subst h; rw [hk] at hy; cases hy; exact hx
set_option maxHeartbeats 400000 in
theorem IndexFuncRune.calls (p : Int → Bool) (fn : Nat) (A0 : Option Addr) (c0 : Nat) (l0 : List Int) (w : World) (hr0 : Kd.C (Kd.int .i32) w A0 l0.length l0) (hc0 : l0.length ≤ c0)
  (hcall : ∀ args W, (callFunc fn args).run Tryz.prog W = .ok (.enter fn args) W)
  (hp : ∀ x W, Calls Tryz.prog fn #[.int .i32 x] W fun e W' => e = .returned (.bool (p x)) ∧ Below W.heap.size W W') :
  Calls Tryz.prog 78 #[.slice A0 l0.length c0, .func (.func fn) #[] #[]] w fun e w' => e = .returned (.int .i64 (idxR p l0)) ∧ Below w.heap.size w w' := by
 have hm := Kd.C_max hr0
 have HR := Aside0.mk hr0
 have HP := Aside0.mk hp
 have HC := Aside0.mk hc0
 clear hr0 hp hc0
 go_enter Tryz.func78, Tryz.ntmps78
 go_wp2
 go_loopw [5, 8] (fun _ i wr => ∃ k : Nat, k ≤ l0.length ∧ i = .int .i64 k ∧ Aside0 (∀ j y, j < k → l0[j]? = some y → p y = false) ∧ Aside0 (Below w.heap.size w wr)) (fun _ i _ => l0.length - (intOf i).toNat)
 case atStart => exact ⟨0, Nat.zero_le _, rfl, ⟨fun j y hj => absurd hj (Nat.not_lt_zero _)⟩, ⟨Below.refl _ _⟩⟩
 case round =>
  obtain ⟨k, hk, rfl, hno, hb⟩ := hrel
  by_cases hlt : k < l0.length
  ·
   obtain ⟨x, hx⟩ : ∃ x, Aside0 (l0[k]? = some x) := ⟨_, ⟨List.getElem?_eq_getElem hlt⟩⟩
   obtain ⟨ad, e, h0⟩ := rune_at HR.out hb.out k x hx.out
   subst e
   cases hpx : p x with
   | true =>
    have HX := Aside0.mk hpx
    clear hpx
    go_wp2
    refine (HP.out x _).mono ?_
    rintro e W' ⟨rfl, hb2⟩
    rw [HX.out]
    go_wp2
    go_ret
    exact ⟨by rw [idxR_at hx.out HX.out hno.out]; rfl, below_then hb.out hb.out.size hb2⟩
   | false =>
    have HX := Aside0.mk hpx
    clear hpx
    go_wp2
    refine (HP.out x _).mono ?_
    rintro e W' ⟨rfl, hb2⟩
    rw [HX.out]
    go_wp2
    go_roundw
    case rel => exact ⟨k + 1, by omega, by go_num, ⟨noR_step hx.out HX.out hno.out⟩, ⟨below_then hb.out hb.out.size hb2⟩⟩
    case measure => simp [intOf]; omega
  ·
   go_wp2
   go_ret
   obtain rfl : k = l0.length := by omega
   exact ⟨by rw [idxR_none hno.out]; rfl, hb.out⟩
set_option maxHeartbeats 400000 in
theorem ContainsFuncRune.calls (p : Int → Bool) (fn : Nat) (A0 : Option Addr) (c0 : Nat) (l0 : List Int) (w : World) (hr0 : Kd.C (Kd.int .i32) w A0 l0.length l0) (hc0 : l0.length ≤ c0)
  (hcall : ∀ args W, (callFunc fn args).run Tryz.prog W = .ok (.enter fn args) W)
  (hp : ∀ x W, Calls Tryz.prog fn #[.int .i32 x] W fun e W' => e = .returned (.bool (p x)) ∧ Below W.heap.size W W') :
  Calls Tryz.prog 48 #[.slice A0 l0.length c0, .func (.func fn) #[] #[]] w fun e w' => e = .returned (.bool (l0.any p)) ∧ Below w.heap.size w w' := by
 have HI := Aside0.mk (IndexFuncRune.calls p fn A0 c0 l0 w hr0 hc0 hcall hp)
 clear hr0 hc0 hp hcall
 go_enter Tryz.func48, Tryz.ntmps48
 go_wp2_with fail
 refine HI.out.mono ?_
 rintro e W' ⟨rfl, hb⟩
 have hi : decide (idxR p l0 ≥ 0) = l0.any p := by
  unfold idxR
  cases h : l0.findIdx? p with
  | none => simp [List.findIdx?_eq_none_iff] at h; simp; exact h
  | some i => simp; exact ⟨_, List.getElem_mem (List.findIdx?_eq_some_iff_getElem.1 h).1, (List.findIdx?_eq_some_iff_getElem.1 h).2.1⟩
 have HI2 := Aside0.mk hi
 clear hi
 go_wp2
 go_ret
 exact ⟨by rw [← HI2.out]; rfl, hb⟩
end Go.Proofs.YtmbndijbpgobeaaGreat.PWalk
end
section
namespace Go.Proofs.YtmbndijbpgobeaaGreat.PWalk
open Go.RowKit Go.Proofs.YtmbndijbpgobeaaGreatW.PrintWords Go.Proofs.YtmbndijbpgobeaaGreatW.PrintLast Go.Proofs.YtmbndijbpgobeaaGreatW.PrintMore
set_option linter.unusedVariables false
set_option linter.unusedSimpArgs false
open Go.Shelf
attribute [local go_sem] Oper.semAt_some
/-- The greatest time. -/
def lastOf (l : List Node) : Int := l.foldl (fun t x => mx t x.f2) 0
theorem time_from (l : List Node) (hl : l.length ≤ 1000000) : ∀ (q k i : Nat) (t : Int), i + q = l.length → q < k → store_Time.l0 k t l (l.length : Int) (i : Int) = some ((l.drop i).foldl (fun t x => mx t x.f2) t, 0) := by
 intro q
 induction q with
 | zero =>
  intro k i t hi hk
  obtain ⟨k, rfl⟩ : ∃ m, k = m + 1 := ⟨k - 1, by omega⟩
  simp only [store_Time.l0]
  rw [if_neg (by omega), List.drop_of_length_le (by omega)]
  rfl
 | succ q ih =>
  intro k i t hi hk
  obtain ⟨k, rfl⟩ : ∃ m, k = m + 1 := ⟨k - 1, by omega⟩
  have hlt : i < l.length := by omega
  simp only [store_Time.l0]
  rw [if_pos (by omega), if_pos (by omega), if_pos (by omega), rdN hlt, wrap_succ hlt hl, List.drop_eq_getElem_cons hlt, List.foldl_cons]
  exact ih k (i + 1) _ (by omega) (by omega)
theorem latest_is {l : List Node} (hl : l.length ≤ 1000000) {k : Nat} (hk : l.length < k) : edit_Latest.f k l = some (if storeOk l = true then lastOf l else 0) := by
 unfold edit_Latest.f store_Time.f store_Valid.f
 rw [if_pos hl]
 cases h : storeOk l with
 | true =>
  simp only [Option.bind_some, if_true]
  have := time_from l hl l.length k 0 0 (by omega) hk
  rw [show ((0 : Nat) : Int) = 0 from rfl] at this
  rw [this]
  rfl
 | false => rfl
/-- The parent of what is inserted at an index. -/
def leftE (l : List Node) (a : Int) : Dot := if a = 0 then ⟨0, 0⟩ else ((visOf l)[(a - 1).toNat]?.map (·.f0)).getD ⟨0, 0⟩
theorem left_is {l : List Node} (hl : l.length ≤ 1000000) (hs : storeOk l = true) {a : Int} (h0 : 0 ≤ a) (h1 : a ≤ ((visOf l).length : Int)) {k : Nat} (hk : 3 ≤ k) : index_Left.f k l a = some ((leftE l a).f0, (leftE l a).f1, 0) := by
 obtain ⟨k, rfl⟩ : ∃ m, k = m + 1 := ⟨k - 1, by omega⟩
 have hv := vis_len hs
 unfold index_Left.f leftE
 rw [vis_is hl, if_pos hs, Option.bind_some, if_neg (by omega), when_is, Option.bind_some]
 dsimp only
 rw [first2_k (by omega), if_neg (show ¬ decide (a > ((visOf l).length : Int)) = true by simpa using h1), Option.bind_some]
 simp only [index_Left.j0, if_true]
 by_cases h : a = 0
 ·
  rw [if_pos h, if_pos h]
 ·
  rw [if_neg h, if_neg h]
  obtain ⟨i, hi⟩ : ∃ i : Nat, a - 1 = (i : Int) := ⟨(a - 1).toNat, by omega⟩
  have hw : wrap64 (a - 1) = (i : Int) := by rw [hi]; unfold wrap64; omega
  have hlt : i < (visOf l).length := by omega
  rw [hw, if_pos (by omega), if_pos (by omega), rdN hlt, hi, Int.toNat_natCast, List.getElem?_eq_getElem hlt]
  rfl
def parE (d p : Dot) : Nat → Dot
 | 0 => p
 | j + 1 => ⟨d.f0, d.f1 + (j : Int)⟩
def nodeE (d p : Dot) (last : Int) (rs : List Int) (i : Nat) : Node := ⟨⟨d.f0, d.f1 + (i : Int)⟩, parE d p i, last + 1 + (i : Int), rs.getD i 0⟩
/-- The nodes of runes that are inserted. -/
def chainE (d p : Dot) (last : Int) (rs : List Int) : List Node := (List.range rs.length).map (nodeE d p last rs)
/-- Whether one of the next dots is taken. -/
def busyE (l : List Node) (d : Dot) (m : Nat) : Bool := (List.range m).any fun i => decide ((⟨d.f0, d.f1 + (i : Int)⟩ : Dot) ∈ l.map (·.f0))
theorem busy_yes {l : List Node} {d : Dot} {m i : Nat} (hi : i < m) (h : (⟨d.f0, d.f1 + (i : Int)⟩ : Dot) ∈ l.map (·.f0)) : busyE l d m = true := by
 unfold busyE
 rw [List.any_eq_true]
 exact ⟨i, List.mem_range.2 hi, decide_eq_true h⟩
theorem busy_no {l : List Node} {d : Dot} {m : Nat} (h : ∀ i, i < m → (⟨d.f0, d.f1 + (i : Int)⟩ : Dot) ∉ l.map (·.f0)) : busyE l d m = false := by
 unfold busyE
 rw [List.any_eq_false]
 intro i hi
 rw [decide_eq_true_eq]
 exact h i (List.mem_range.1 hi)
def chainR (l : List Node) (d : Dot) (a : Int) (rs : List Int) : List Node × Int := if busyE l d rs.length = true then ([], 11) else (chainE d (leftE l a) (lastOf l) rs, 0)
end Go.Proofs.YtmbndijbpgobeaaGreat.PWalk
end
section
namespace Go.Proofs.YtmbndijbpgobeaaGreat.PWalk
open Go.RowKit Go.Proofs.YtmbndijbpgobeaaGreatW.PrintWords Go.Proofs.YtmbndijbpgobeaaGreatW.PrintLast Go.Proofs.YtmbndijbpgobeaaGreatW.PrintMore
set_option linter.unusedVariables false
set_option linter.unusedSimpArgs false
open Go.Shelf
attribute [local go_sem] Oper.semAt_some
theorem chainCmp_call (x : Node) (d : Dot) (w : World) : Calls Tryz.prog 83 #[vNode x, vDot d] w fun e w' => e = .returned (.int .i64 (dotCmp x.f0 d)) ∧ Below w.heap.size w w' := by
 have hB : ((w.alloc (.cells #[.int .i64 x.f0.f0, .int .i64 x.f0.f1, .int .i64 x.f1.f0, .int .i64 x.f1.f1, .int .i64 x.f2, .int .i32 x.f3] 53 (0, 0))).alloc (.cells #[.int .i64 d.f0, .int .i64 d.f1] 25 (0, 0))).heap[w.heap.size + 1]? = some (.cells #[.int .i64 d.f0, .int .i64 d.f1] 25 (0, 0)) := by
  have := blk_new (w.alloc (.cells #[.int .i64 x.f0.f0, .int .i64 x.f0.f1, .int .i64 x.f1.f0, .int .i64 x.f1.f1, .int .i64 x.f2, .int .i32 x.f3] 53 (0, 0))) (.cells #[.int .i64 d.f0, .int .i64 d.f1] 25 (0, 0))
  rwa [show (w.alloc (.cells #[.int .i64 x.f0.f0, .int .i64 x.f0.f1, .int .i64 x.f1.f0, .int .i64 x.f1.f1, .int .i64 x.f2, .int .i32 x.f3] 53 (0, 0))).heap.size = w.heap.size + 1 by simp] at this
 have hA : ((w.alloc (.cells #[.int .i64 x.f0.f0, .int .i64 x.f0.f1, .int .i64 x.f1.f0, .int .i64 x.f1.f1, .int .i64 x.f2, .int .i32 x.f3] 53 (0, 0))).alloc (.cells #[.int .i64 d.f0, .int .i64 d.f1] 25 (0, 0))).heap[w.heap.size]? = some (.cells #[.int .i64 x.f0.f0, .int .i64 x.f0.f1, .int .i64 x.f1.f0, .int .i64 x.f1.f1, .int .i64 x.f2, .int .i32 x.f3] 53 (0, 0)) :=
  blk_keep (blk_new w (.cells #[.int .i64 x.f0.f0, .int .i64 x.f0.f1, .int .i64 x.f1.f0, .int .i64 x.f1.f1, .int .i64 x.f2, .int .i32 x.f3] 53 (0, 0))) (Gr.alloc _ _).below
 have HB := Aside0.mk (below_alloc (below_alloc (Below.refl _ w) (.cells #[.int .i64 x.f0.f0, .int .i64 x.f0.f1, .int .i64 x.f1.f0, .int .i64 x.f1.f1, .int .i64 x.f2, .int .i32 x.f3] 53 (0, 0))) (.cells #[.int .i64 d.f0, .int .i64 d.f1] 25 (0, 0)))
 have a0 := (blk_cell hA 0).trans (show _ = some (Value.int .i64 x.f0.f0) from rfl)
 have a1 := (blk_cell hA 1).trans (show _ = some (Value.int .i64 x.f0.f1) from rfl)
 have b0 := (blk_cell hB 0).trans (show _ = some (Value.int .i64 d.f0) from rfl)
 have b1 := (blk_cell hB 1).trans (show _ = some (Value.int .i64 d.f1) from rfl)
 clear hA hB
 go_enter Tryz.func83, Tryz.ntmps83
 go_wp2_with fail
 refine (dotCmp_call x.f0 d _).mono ?_
 rintro e W3 ⟨rfl, hd⟩
 have hd := hd.below
 go_wp2
 go_ret
 exact ⟨rfl, below_more HB.out hd⟩
def cbrInv (w : World) (B n c : Nat) (ad : Addr) (d : Dot) (i j h : Nat) (k : Node) (z12 z13 z14 z15 z16 z17 z18 z19 z20 z21 z22 z23 u24 u25 u26 u27 u28 u29 u30 u31 u32 u33 u34 : Value) (L : Array Bool) (ac : Act) (V : World) : Prop := ∃ (l0 l1 l2 l3 l4 l5 l6 l7 : Bool), L = #[l0, l1, l2, l3, l4, l5, l6, l7] ∧ ac = { tmps := #[.slice (some ad) n c, vDot d, .func (.func 83) #[] #[], undef, .pointer (some ⟨B, 0, none⟩), undef, .int .i64 0, .bool false, .int .i64 n, .int .i64 i, .int .i64 j, .int .i64 h, z12, z13, z14, z15, z16, z17, z18, z19, z20, z21, z22, z23, selv l0 (.func (.func 83) #[] #[]) (u24), selv l1 (.slice (some ad) n c) (u25), selv l2 (.int .i64 h) (u26), selv l3 (.pointer (some (ad.add (h * 6)))) (u27), selv l4 (vNode k) (u28), selv l5 (vDot d) (u29), selv l6 (.int .i64 (dotCmp k.f0 d)) (u30), selv l7 (.bool (decide (dotCmp k.f0 d < 0))) (u31), u32, u33, u34, undef, undef, undef, undef, undef, undef, undef, undef, undef, undef, undef, undef, undef, undef], defers := [] } ∧ Aside0 (Bs w d V)
def cbtInv (w : World) (B n c : Nat) (ad : Addr) (d : Dot) (q : Nat) (k : Node) (y11 y12 y13 y14 y15 y16 y17 y18 y19 y20 y21 y22 y23 y24 y25 y26 y27 y28 y29 y30 y31 y32 y33 y34 : Value) (L : Array Bool) (ac : Act) (V : World) : Prop := ∃ (l0 l1 l2 l3 l4 l5 l6 l7 l8 l9 l10 l11 l12 l13 l14 l15 : Bool), L = #[l0, l1, l2, l3, l4, l5, l6, l7, l8, l9, l10, l11, l12, l13, l14, l15] ∧ ac = { tmps := #[.slice (some ad) n c, vDot d, .func (.func 83) #[] #[], undef, .pointer (some ⟨B, 0, none⟩), undef, selv l14 (.int .i64 q) (.int .i64 0), selv l15 (.bool (dotCmp k.f0 d == 0)) (.bool false), .int .i64 n, .int .i64 q, .int .i64 q, y11, y12, y13, y14, y15, y16, y17, y18, y19, y20, y21, y22, y23, y24, y25, y26, y27, y28, y29, y30, y31, y32, y33, y34, sel l0 (.int .i64 q), sel l1 (.int .i64 q), sel l2 (.int .i64 n), sel l3 (.bool true), sel l4 (.bool true), sel l5 (.func (.func 83) #[] #[]), sel l6 (.slice (some ad) n c), sel l7 (.int .i64 q), sel l8 (.pointer (some (ad.add (q * 6)))), sel l9 (vNode k), sel l10 (vDot d), sel l11 (.int .i64 (dotCmp k.f0 d)), sel l12 (.bool (dotCmp k.f0 d == 0)), sel l13 (.bool (dotCmp k.f0 d == 0))], defers := [] } ∧ Aside0 (Bs w d V)
def cbfInv (w : World) (A : Option Addr) (B n c : Nat) (d : Dot) (y11 y12 y13 y14 y15 y16 y17 y18 y19 y20 y21 y22 y23 y24 y25 y26 y27 y28 y29 y30 y31 y32 y33 y34 : Value) (L : Array Bool) (ac : Act) (V : World) : Prop := ∃ (l0 l1 l2 l3 l4 l5 l6 l7 l8 l9 l10 l11 l12 l13 l14 l15 : Bool), L = #[l0, l1, l2, l3, l4, l5, l6, l7, l8, l9, l10, l11, l12, l13, l14, l15] ∧ ac = { tmps := #[.slice A n c, vDot d, .func (.func 83) #[] #[], undef, .pointer (some ⟨B, 0, none⟩), undef, selv l14 (.int .i64 n) (.int .i64 0), selv l15 (.bool false) (.bool false), .int .i64 n, .int .i64 n, .int .i64 n, y11, y12, y13, y14, y15, y16, y17, y18, y19, y20, y21, y22, y23, y24, y25, y26, y27, y28, y29, y30, y31, y32, y33, y34, sel l0 (.int .i64 n), sel l1 (.int .i64 n), sel l2 (.int .i64 n), sel l3 (.bool false), sel l4 (.bool false), sel l5 (undef), sel l6 (undef), sel l7 (undef), sel l8 (undef), sel l9 (undef), sel l10 (undef), sel l11 (undef), sel l12 (undef), sel l13 (.bool false)], defers := [] } ∧ Aside0 (Bs w d V)
set_option maxHeartbeats 2000000 in
set_option maxRecDepth 100000 in
theorem bsearchS_call (ll : List Node) (A : Option Addr) (n c : Nat) (d : Dot) (w : World) (ks : List Dot) (hks : ll.map (·.f0) = ks) (hs : incB ks = true) (hl : ll.length = n) (hsm : n ≤ 1000000) (he : Kd.C k53 w A n ll) :
  Calls Tryz.prog 82 #[.slice A n c, vDot d, .func (.func 83) #[] #[]] w fun e w' => e = .returned (.tuple #[.int .i64 (posK ks d), .bool (hasK ks d)]) ∧ Below w.heap.size w w' := by
 have HE := Aside0.mk he
 have HS := Aside0.mk hs
 have hn := hsm
 have hkl : ks.length = n := by rw [← hks, List.length_map, hl]
 have HKL := Aside0.mk hkl
 have HQN : Aside0 (posK ks d ≤ n) := ⟨by rw [← hkl]; exact posK_le ks d⟩
 have HG : Aside0 (∀ h, h < n → ∃ k : Node, ks[h]? = some k.f0 ∧ ll[h]? = some k) := ⟨fun h hh => by
  obtain ⟨k, hk⟩ : ∃ k, ll[h]? = some k := ⟨_, List.getElem?_eq_getElem (by omega)⟩
  exact ⟨k, by rw [← hks, List.getElem?_map, hk]; rfl, hk⟩⟩
 clear he hs hks hl hkl hsm
 obtain ⟨q, HQ⟩ : ∃ q, Aside0 (posK ks d = q) := ⟨_, ⟨rfl⟩⟩
 obtain ⟨hf, HHF⟩ : ∃ hf, Aside0 (hasK ks d = hf) := ⟨_, ⟨rfl⟩⟩
 rw [HQ.out, HHF.out]
 rw [HQ.out] at HQN
 have HB0 : Aside0 (Bs w d (w.alloc (.cells #[.int .i64 d.f0, .int .i64 d.f1] 25 (0, 0)))) := ⟨(Gr.alloc w _).below, blk_new _ _⟩
 go_enter Tryz.func82, Tryz.ntmps82
 go_wp2
 go_loopw [9, 10] (fun i j wr => ∃ i' j' : Nat, i' ≤ q ∧ q ≤ j' ∧ j' ≤ n ∧ i = .int .i64 i' ∧ j = .int .i64 j' ∧ Aside0 (Bs w d wr)) (fun i j _ => (intOf j - intOf i).toNat)
 case atStart => exact ⟨0, n, Nat.zero_le _, HQN.out, Nat.le_refl _, rfl, rfl, HB0⟩
 case round =>
  obtain ⟨i, j, hi, hj, hjn, rfl, rfl, HB⟩ := hrel
  clear HB0
  by_cases hlt : i < j
  ·
   have hlb : decide ((i : Int) < (j : Int)) = true := decide_eq_true (by omega)
   obtain ⟨h, Hh⟩ : ∃ h : Nat, h = (i + j) / 2 := ⟨_, rfl⟩
   have hm : ((i : Int) + (j : Int)) / 2 = (h : Int) := by omega
   have HH : Aside0 (h < n) := ⟨by omega⟩
   have HIJ : Aside0 (i ≤ h ∧ h < j) := ⟨by omega⟩
   clear Hh
   obtain ⟨k, hk, hkn⟩ := HG.out _ HH.out
   obtain ⟨ad, rfl, HC⟩ := node_at HE.out (Below.refl _ w) _ k hkn
   have HC := Aside0.mk HC
   have HL : Aside0 (dotLt k.f0 d = true ↔ h < q) := ⟨by rw [← HQ.out]; exact posK_iff HS.out d hk⟩
   clear hk hkn
   go_wp2_with fail
   refine AnyOrder.wp_region (by kernel_rfl) (cbrInv w w.heap.size n c ad d i j h k (.slice (some ad) n c) (.int .i64 n) (.int .i64 n) (.int .i64 i) (.int .i64 j) (.bool true) (.int .i64 i) (.int .i64 j) (.int .i64 ((i : Int) + (j : Int))) (.int .u64 ((i : Int) + (j : Int))) (.int .u64 h) (.int .i64 h) u24 u25 u26 u27 u28 u29 u30 u31 u32 u33 u34) ⟨false, false, false, false, false, false, false, false, rfl, rfl, ⟨HB.out.drew⟩⟩ ?step ?last
   case step =>
    rintro L ac V i ⟨l0, l1, l2, l3, l4, l5, l6, l7, rfl, rfl, HF⟩ hi K hK
    rcases AnyOrder.up hi [0, 1, 2, 7, 3, 4, 5, 6] rfl with rfl | rfl | rfl | rfl | rfl | rfl | rfl | rfl
    all_goals
     replace hi := AnyOrder.first hi rfl
     repeat (obtain ⟨ha, hi⟩ := hi; first | obtain rfl := ha | clear ha)
     clear hi
     try simp only [sel_true, selv_true] at hK ⊢
    iterate 4
     ·
      refine AnyOrder.wpOp_go rfl (by rfl) ?_
      go_wp2_with fail
      exact ⟨_, _, _, _, _, _, _, _, rfl, rfl, HF⟩
    ·
     have hh := HH.out
     refine AnyOrder.wpOp_go rfl (by rfl) ?_
     go_wp2_with fail
     exact ⟨_, _, _, _, _, _, _, _, rfl, rfl, HF⟩
    ·
     obtain ⟨q0, q1, q2, q3, q4, q5⟩ := HC.out
     have e0 := pw_cell_below HF.out.below q0
     have e1 := pw_cell_below HF.out.below q1
     have e2 := pw_cell_below HF.out.below q2
     have e3 := pw_cell_below HF.out.below q3
     have e4 := pw_cell_below HF.out.below q4
     have e5 := pw_cell_below HF.out.below q5
     clear q0 q1 q2 q3 q4 q5
     refine AnyOrder.wpOp_go rfl (by rfl) ?_
     go_wp2_with fail
     exact ⟨_, _, _, _, _, _, _, _, rfl, rfl, HF⟩
    ·
     have d0 : V.cell? ⟨w.heap.size, 0, none⟩ = _ := (blk_cell HF.out.box 0).trans rfl
     have d1 : V.cell? ⟨w.heap.size, 1, none⟩ = _ := (blk_cell HF.out.box 1).trans rfl
     refine AnyOrder.wpOp_go rfl (by rfl) ?_
     go_wp2_with fail
     exact ⟨_, _, _, _, _, _, _, _, rfl, rfl, HF⟩
    ·
     refine AnyOrder.wpOp_go rfl (by rfl) ?_
     go_wp2_with fail
     refine (chainCmp_call k d V).mono ?_
     rintro e V' ⟨rfl, hb⟩
     exact hK _ _ ⟨_, _, _, _, _, _, _, _, rfl, rfl, ⟨HF.out.more hb⟩⟩
   case last =>
    rintro L ac V ⟨l0, l1, l2, l3, l4, l5, l6, l7, rfl, rfl, HF⟩ hr
    obtain ⟨rfl, rfl, rfl, rfl, rfl, rfl, rfl, rfl, -⟩ := AnyOrder.alls rfl (by kernel_rfl) hr
    clear hr
    simp only [sel_true, selv_true]
    clear hm
    rw [dotCmp_lt]
    cases hd : dotLt k.f0 d with
    | true =>
     have hw1 : wrap64 ((h : Int) + 1) = ((h + 1 : Nat) : Int) := by unfold wrap64; have := HH.out; omega
     have h2 := HL.out.1 hd
     have HIJ2 := HIJ.out
     clear hd
     go_wp2_with fail
     refine ⟨⟨h + 1, j, by omega, hj, hjn, by (first | rfl | (rw [hw1])), rfl, HF⟩, ?_⟩
     simp [intOf]; omega
    | false =>
     have h2 : ¬ h < q := fun e => by have := HL.out.2 e; rw [hd] at this; cases this
     have HIJ2 := HIJ.out
     clear hd
     go_wp2_with fail
     refine ⟨⟨i, h, hi, by omega, by omega, rfl, rfl, HF⟩, ?_⟩
     simp [intOf]; omega
  ·
   obtain rfl : q = i := by omega
   obtain rfl : q = j := by omega
   have hlb : decide ((q : Int) < (q : Int)) = false := decide_eq_false (by omega)
   by_cases hq : q < n
   ·
    have HH := Aside0.mk hq
    obtain ⟨k, hk, hkn⟩ := HG.out _ HH.out
    obtain ⟨ad, rfl, HC⟩ := node_at HE.out (Below.refl _ w) _ k hkn
    have HC := Aside0.mk HC
    have HR : Aside0 (hf = (dotCmp k.f0 d == 0)) := ⟨by rw [← HHF.out, hasK, HQ.out, hk, dotCmp_eq]; simp⟩
    clear hk hkn
    go_wp2_with fail
    refine AnyOrder.wp_region (by kernel_rfl) (cbtInv w w.heap.size n c ad d q k u11 (.slice (some ad) n c) (.int .i64 n) (.int .i64 n) (.int .i64 q) (.int .i64 q) (.bool false) u18 u19 u20 u21 u22 u23 u24 u25 u26 u27 u28 u29 u30 u31 u32 u33 u34) ⟨false, false, false, false, false, false, false, false, false, false, false, false, false, false, false, false, rfl, rfl, ⟨HB.out.drew⟩⟩ ?step ?last
    case step =>
     rintro L ac V i ⟨l0, l1, l2, l3, l4, l5, l6, l7, l8, l9, l10, l11, l12, l13, l14, l15, rfl, rfl, HF⟩ hi K hK
     rcases AnyOrder.up hi [0, 1, 2, 4, 5, 6, 7, 12, 13, 14, 15, 3, 8, 9, 10, 11] rfl with rfl | rfl | rfl | rfl | rfl | rfl | rfl | rfl | rfl | rfl | rfl | rfl | rfl | rfl | rfl | rfl
     all_goals
      replace hi := AnyOrder.first hi rfl
      repeat (obtain ⟨ha, hi⟩ := hi; first | obtain rfl := ha | clear ha)
      clear hi
      try simp only [sel_true, selv_true] at hK ⊢
     iterate 11
      ·
       refine AnyOrder.wpOp_go rfl (by rfl) ?_
       go_wp2_with fail
       exact ⟨_, _, _, _, _, _, _, _, _, _, _, _, _, _, _, _, rfl, rfl, HF⟩
     ·
      have hh : decide ((q : Int) < (n : Int)) = true := decide_eq_true (by have := HH.out; omega)
      refine AnyOrder.wpOp_go rfl (by rfl) ?_
      go_wp2_with fail
      exact ⟨_, _, _, _, _, _, _, _, _, _, _, _, _, _, _, _, rfl, rfl, HF⟩
     ·
      have hh := HH.out
      refine AnyOrder.wpOp_go rfl (by rfl) ?_
      go_wp2_with fail
      exact ⟨_, _, _, _, _, _, _, _, _, _, _, _, _, _, _, _, rfl, rfl, HF⟩
     ·
      obtain ⟨q0, q1, q2, q3, q4, q5⟩ := HC.out
      have e0 := pw_cell_below HF.out.below q0
      have e1 := pw_cell_below HF.out.below q1
      have e2 := pw_cell_below HF.out.below q2
      have e3 := pw_cell_below HF.out.below q3
      have e4 := pw_cell_below HF.out.below q4
      have e5 := pw_cell_below HF.out.below q5
      clear q0 q1 q2 q3 q4 q5
      refine AnyOrder.wpOp_go rfl (by rfl) ?_
      go_wp2_with fail
      exact ⟨_, _, _, _, _, _, _, _, _, _, _, _, _, _, _, _, rfl, rfl, HF⟩
     ·
      have d0 : V.cell? ⟨w.heap.size, 0, none⟩ = _ := (blk_cell HF.out.box 0).trans rfl
      have d1 : V.cell? ⟨w.heap.size, 1, none⟩ = _ := (blk_cell HF.out.box 1).trans rfl
      refine AnyOrder.wpOp_go rfl (by rfl) ?_
      go_wp2_with fail
      exact ⟨_, _, _, _, _, _, _, _, _, _, _, _, _, _, _, _, rfl, rfl, HF⟩
     ·
      refine AnyOrder.wpOp_go rfl (by rfl) ?_
      go_wp2_with fail
      refine (chainCmp_call k d V).mono ?_
      rintro e V' ⟨rfl, hb⟩
      exact hK _ _ ⟨_, _, _, _, _, _, _, _, _, _, _, _, _, _, _, _, rfl, rfl, ⟨HF.out.more hb⟩⟩
    case last =>
     rintro L ac V ⟨l0, l1, l2, l3, l4, l5, l6, l7, l8, l9, l10, l11, l12, l13, l14, l15, rfl, rfl, HF⟩ hr
     obtain ⟨rfl, rfl, rfl, rfl, rfl, rfl, rfl, rfl, rfl, rfl, rfl, rfl, rfl, rfl, rfl, rfl, -⟩ := AnyOrder.alls rfl (by kernel_rfl) hr
     clear hr
     simp only [sel_true, selv_true]
     go_wp2
     refine bodyPost_ret (results_tmp2 rfl _ _ _) rfl ?_
     exact ⟨by rw [HR.out]; rfl, HF.out.below⟩
   ·
    obtain rfl : n = q := by omega
    have HR : Aside0 (hf = false) := ⟨by rw [← HHF.out, hasK, HQ.out, List.getElem?_eq_none (by rw [HKL.out]; exact Nat.le_refl _)]; rfl⟩
    go_wp2_with fail
    refine AnyOrder.wp_region (by kernel_rfl) (cbfInv w A w.heap.size n c d u11 (.slice A n c) (.int .i64 n) (.int .i64 n) (.int .i64 n) (.int .i64 n) (.bool false) u18 u19 u20 u21 u22 u23 u24 u25 u26 u27 u28 u29 u30 u31 u32 u33 u34) ⟨false, false, false, false, false, false, false, false, false, false, false, false, false, false, false, false, rfl, rfl, ⟨HB.out.drew⟩⟩ ?step ?last
    case step =>
     rintro L ac V i ⟨l0, l1, l2, l3, l4, l5, l6, l7, l8, l9, l10, l11, l12, l13, l14, l15, rfl, rfl, HF⟩ hi K hK
     rcases AnyOrder.up hi [0, 1, 2, 4, 13, 14, 15, 3, 5, 6, 7, 8, 9, 10, 11, 12] rfl with rfl | rfl | rfl | rfl | rfl | rfl | rfl | rfl | rfl | rfl | rfl | rfl | rfl | rfl | rfl | rfl
     all_goals
      replace hi := AnyOrder.first hi rfl
      repeat (obtain ⟨ha, hi⟩ := hi; first | obtain rfl := ha | clear ha)
      clear hi
      try simp only [sel_true, selv_true] at hK ⊢
     iterate 7
      ·
       refine AnyOrder.wpOp_go rfl (by rfl) ?_
       go_wp2_with fail
       exact ⟨_, _, _, _, _, _, _, _, _, _, _, _, _, _, _, _, rfl, rfl, HF⟩
     ·
      have hh : decide ((n : Int) < (n : Int)) = false := decide_eq_false (by omega)
      refine AnyOrder.wpOp_go rfl (by rfl) ?_
      go_wp2_with fail
      exact ⟨_, _, _, _, _, _, _, _, _, _, _, _, _, _, _, _, rfl, rfl, HF⟩
     iterate 8
      ·
       refine AnyOrder.wpOp_out rfl (by rfl) ?_
       exact hK _ _ ⟨_, _, _, _, _, _, _, _, _, _, _, _, _, _, _, _, rfl, rfl, HF⟩
    case last =>
     rintro L ac V ⟨l0, l1, l2, l3, l4, l5, l6, l7, l8, l9, l10, l11, l12, l13, l14, l15, rfl, rfl, HF⟩ hr
     obtain ⟨rfl, rfl, rfl, rfl, rfl, rfl, rfl, rfl, rfl, rfl, rfl, rfl, rfl, rfl, rfl, rfl, -⟩ := AnyOrder.alls rfl (by kernel_rfl) hr
     clear hr
     simp only [sel_true, selv_true]
     go_wp2
     refine bodyPost_ret (results_tmp2 rfl _ _ _) rfl ?_
     exact ⟨by rw [HR.out]; rfl, HF.out.below⟩
end Go.Proofs.YtmbndijbpgobeaaGreat.PWalk
end
section
namespace Go.Proofs.YtmbndijbpgobeaaGreat.PWalk
open Go.RowKit Go.Proofs.YtmbndijbpgobeaaGreatW.PrintWords Go.Proofs.YtmbndijbpgobeaaGreatW.PrintLast Go.Proofs.YtmbndijbpgobeaaGreatW.PrintMore
set_option linter.unusedVariables false
set_option linter.unusedSimpArgs false
open Go.Shelf
attribute [local go_sem] Oper.semAt_some
theorem op_boxDot {o : Oper} {a : Act} {K : Act → World → Prop} {Q : Exit → Act → World → Prop} (s x : Operand) (ho : o.op = .store 25 s x) (hd : o.dst = none) {w : World} {g : Nat} {e : Dot}
  (hg : w.heap[g]? = some (dotC e)) (y : Dot) (hs : a.eval s = .pointer (some ⟨g, 0, none⟩)) (hx : a.eval x = vDot y)
  (hk : ∀ w', w'.heap[g]? = some (dotC y) → w.grownBy w' (some g) → K a w') : o.wp Tryz.prog a w K Q := by
 obtain ⟨i0, hi0, hz0, hz1, hz2⟩ := info_get infoD
 refine wp_store_row 25 s x ho g _ hs hx 25 _ hg (by rw [hi0]; show some i0.size = some 2; rw [hz1]) rfl (Array.all_eq_true_iff_forall_mem.2 (by intro v hv; simp at hv; rcases hv with rfl | rfl <;> rfl)) ?_
 rw [hd]
 exact hk _ (setRow_at hg _) (setRow_grown w g _)
theorem dot_cells {V : World} {g : Nat} {d : Dot} (h : V.heap[g]? = some (dotC d)) : V.cell? ⟨g, 0, none⟩ = some (.int .i64 d.f0) ∧ V.cell? ⟨g, 1, none⟩ = some (.int .i64 d.f1) := ⟨(blk_cell h 0).trans rfl, (blk_cell h 1).trans rfl⟩
/-- What has come up where a node is built. -/
structure JN (W0 : World) (x : Node) (l17 l18 : Bool) (g : Nat) (V : World) : Prop where
 ord : l18 = true → l17 = true
 below : Below W0.heap.size W0 V
 bz : l17 = true → l18 = false → V.heap[g]? = some boxZ
 bx : l18 = true → V.heap[g]? = some (boxN x)
 ge : l17 = true → W0.heap.size ≤ g
/-- What has come up where it is put to the end, and becomes the parent. -/
structure JC (w : World) (B : Nat) (out : List Node) (x : Node) (p d : Dot) (gx gp gd : Nat) (vo : Value) (l0 l2 l3 l6 l7 : Bool) (g : Nat) (v2 : Value) (V : World) : Prop where
 ord3 : l3 = true → l2 = true
 ord6 : l6 = true → l3 = true ∧ l0 = true
 below : Below w.heap.size w V
 size : B ≤ V.heap.size
 r1 : l3 = false → RN V B vo out
 bx : l2 = true → l3 = false → V.heap[g]? = some (boxN x)
 r2 : l3 = true → RN V B v2 (out ++ [x])
 bn : V.heap[gx]? = some (boxN x)
 bd : V.heap[gd]? = some (dotC d)
 bp : l7 = false → V.heap[gp]? = some (dotC p)
 bq : l7 = true → V.heap[gp]? = some (dotC x.f0)
def ch9Inv (W0 : World) (al : Addr) (Ao : Option Addr) (m c1 k co gd gp : Nat) (last r : Int) (d p : Dot) (z0 z1 z2 z4 z6 z7 z8 z9 z11 z15 z16 z17 z18 z19 z20 z21 z22 z23 z24 z25 z26 z27 z28 z29 z30 z32 z33 z34 z35 z36 z37 z38 z39 z40 z41 z42 z43 z44 z45 z46 z47 z48 z49 z50 z51 z52 z53 z54 z55 z56 z57 z58 z59 z60 z61 z62 z63 z64 z65 z66 : Value) (L : Array Bool) (ac : Act) (V : World) : Prop := ∃ (l0 l1 l2 l3 l4 l5 l6 l7 l8 l9 l10 l11 l12 l13 l14 l15 l16 l17 l18 : Bool) (g : Nat), L = #[l0, l1, l2, l3, l4, l5, l6, l7, l8, l9, l10, l11, l12, l13, l14, l15, l16, l17, l18] ∧ ac = { tmps := #[z0, z1, z2, .slice (some al) m c1, z4, .pointer (some ⟨gd, 0, none⟩), z6, z7, z8, z9, .pointer (some ⟨gp, 0, none⟩), z11, .int .i64 last, .slice Ao k co, .int .i64 (k : Int), selv l17 (.pointer (some ⟨g, 0, none⟩)) (z15), z16, z17, z18, z19, z20, z21, z22, z23, z24, z25, z26, z27, z28, z29, z30, .int .i64 (k : Int), z32, z33, selv l0 (.pointer (some ⟨gd, 0, none⟩)) (z34), selv l1 (.int .i64 d.f0) (z35), selv l2 (.pointer (some ⟨gd, 1, none⟩)) (z36), selv l3 (.int .i64 d.f1) (z37), selv l4 (.int .i64 (k : Int)) (z38), selv l5 (.int .i64 (d.f1 + (k : Int))) (z39), selv l6 (vDot ⟨d.f0, d.f1 + (k : Int)⟩) (z40), selv l7 (vDot p) (z41), selv l8 (.int .i64 last) (z42), selv l9 (.int .i64 (last + 1)) (z43), selv l10 (.int .i64 (k : Int)) (z44), selv l11 (.int .i64 (last + 1 + (k : Int))) (z45), selv l12 (.slice (some al) m c1) (z46), selv l13 (.int .i64 (k : Int)) (z47), selv l14 (.pointer (some (al.add k))) (z48), selv l15 (.int .i32 r) (z49), selv l16 (vNode ⟨⟨d.f0, d.f1 + (k : Int)⟩, p, last + 1 + (k : Int), r⟩) (z50), z51, z52, z53, z54, z55, z56, z57, z58, z59, z60, z61, z62, z63, z64, z65, z66], defers := [] } ∧ Aside0 (JN W0 ⟨⟨d.f0, d.f1 + (k : Int)⟩, p, last + 1 + (k : Int), r⟩ l17 l18 g V)
def ch13Inv (W0 : World) (al : Addr) (Ao : Option Addr) (m c1 k co gd gp gx B : Nat) (last : Int) (d p : Dot) (x : Node) (out : List Node) (z0 z1 z2 z4 z6 z7 z8 z9 z11 z16 z17 z18 z19 z20 z21 z22 z23 z24 z25 z26 z27 z28 z29 z30 z32 z33 z34 z35 z36 z37 z38 z39 z40 z41 z42 z43 z44 z45 z46 z47 z48 z49 z50 z51 z52 z53 z54 z55 z56 z57 z58 z59 z60 z61 z62 z63 z64 z65 z66 : Value) (L : Array Bool) (ac : Act) (V : World) : Prop := ∃ (l0 l1 l2 l3 l4 l5 l6 l7 : Bool) (g : Nat) (v2 : Value), L = #[l0, l1, l2, l3, l4, l5, l6, l7] ∧ ac = { tmps := #[z0, z1, z2, .slice (some al) m c1, z4, .pointer (some ⟨gd, 0, none⟩), z6, z7, z8, z9, .pointer (some ⟨gp, 0, none⟩), z11, .int .i64 last, selv l6 (v2) (.slice Ao k co), .int .i64 (k : Int), .pointer (some ⟨gx, 0, none⟩), z16, z17, z18, z19, z20, z21, z22, z23, z24, z25, z26, z27, z28, z29, z30, .int .i64 (k : Int), z32, z33, z34, z35, z36, z37, z38, z39, z40, z41, z42, z43, z44, z45, z46, z47, z48, z49, z50, z51, z52, z53, z54, z55, z56, z57, z58, selv l0 (.slice Ao k co) (z59), selv l1 (vNode x) (z60), selv l2 (.slice (some ⟨g, 0, none⟩) 1 1) (z61), selv l3 (v2) (z62), selv l4 (.pointer (some ⟨gx, 0, none⟩)) (z63), selv l5 (vDot x.f0) (z64), z65, z66], defers := [] } ∧ Aside0 (JC W0 B out x p d gx gp gd (.slice Ao k co) l0 l2 l3 l6 l7 g v2 V)
set_option maxHeartbeats 4000000 in
set_option maxRecDepth 100000 in
theorem chain_call (A0 : Option Addr) (c0 : Nat) (l0 : List Node) (d : Dot) (a1 : Int) (A1 : Option Addr) (c1 : Nat) (rs : List Int) (w : World) (hr0 : Kd.C k53 w A0 l0.length l0) (hc0 : l0.length ≤ c0) (hr1 : Kd.C (Kd.int .i32) w A1 rs.length rs) (hc1 : rs.length ≤ c1)
  (hl : l0.length ≤ 400000) (hrl : rs.length ≤ 10000) (hs : storeOk l0 = true) (ha : 0 ≤ a1 ∧ a1 ≤ ((visOf l0).length : Int)) (hd : 0 ≤ d.f1 ∧ d.f1 + (rs.length : Int) ≤ 4294967296) (hla : 0 ≤ lastOf l0 ∧ lastOf l0 + (rs.length : Int) ≤ 4611686018427387904) :
  Calls Tryz.prog 53 #[.slice A0 l0.length c0, vDot d, .int .i64 a1, .slice A1 rs.length c1] w fun e w' => ∃ v0_ : Value, e = .returned (.tuple #[v0_, .int .i64 (chainR l0 d a1 rs).2]) ∧ Kd.R k53 53 w' w.heap.size (fun _ => True) v0_ (chainR l0 d a1 rs).1 ∧ Below w.heap.size w w' := by
 have HR := Aside0.mk hr0
 have HC := Aside0.mk hc0
 have HRR := Aside0.mk hr1
 have HL := Aside0.mk hl
 have HRL := Aside0.mk hrl
 have HS := Aside0.mk hs
 have HA := Aside0.mk ha
 have HD := Aside0.mk hd
 have HLA := Aside0.mk hla
 obtain ⟨n, Hn⟩ : ∃ n, Aside0 (l0.length = n) := ⟨_, ⟨rfl⟩⟩
 obtain ⟨m, Hm⟩ : ∃ m, Aside0 (rs.length = m) := ⟨_, ⟨rfl⟩⟩
 obtain ⟨last, Hla⟩ : ∃ t, Aside0 (lastOf l0 = t) := ⟨_, ⟨rfl⟩⟩
 obtain ⟨p0, Hp0⟩ : ∃ p, Aside0 (leftE l0 a1 = p) := ⟨_, ⟨rfl⟩⟩
 obtain ⟨ks, Hks⟩ : ∃ ks, Aside0 (l0.map (·.f0) = ks) := ⟨_, ⟨rfl⟩⟩
 have HIB : Aside0 (incB ks = true) := ⟨by rw [← Hks.out]; unfold storeOk at hs; rw [Bool.and_eq_true] at hs; exact hs.2⟩
 have HDC := Aside0.mk (blk_new w (dotC d))
 have HB := Aside0.mk (below_alloc (Below.refl _ w) (dotC d))
 have hcall := index_Left.calls 3 A0 c0 l0 a1 p0.f0 p0.f1 0 (w.alloc (dotC d)) (Kd.C_below hr0 HB.out) hc0 (by rw [left_is (by omega) hs ha.1 ha.2 (Nat.le_refl 3), Hp0.out])
 rw [Hn.out] at hcall
 rw [Hn.out, Hm.out]
 have HCALL := Aside0.mk hcall
 rw [Hm.out] at HRR HRL HD HLA
 rw [Hla.out] at HLA
 have hu := Tryz.underlying53
 have hu2 := Tryz.underlying25
 obtain ⟨gd, Hgd⟩ : ∃ g, Aside0 (w.heap.size = g) := ⟨_, ⟨rfl⟩⟩
 clear hcall hr0 hc0 hr1 hc1 hl hrl hs ha hd hla
 go_enter Tryz.func53, Tryz.ntmps53
 go_wp2_with fail
 refine HCALL.out.mono ?_
 rintro e V1 ⟨rfl, hb⟩
 have HDC := Aside0.mk (blk_keep HDC.out hb)
 have HLT := Aside0.mk (blk_lt HDC.out)
 have HB := Aside0.mk (below_more HB.out hb)
 clear hb HCALL
 have HPC := Aside0.mk (blk_new V1 (dotC p0))
 have HBP := Aside0.mk (below_alloc (Below.refl _ V1) (dotC p0))
 have HDC := Aside0.mk (blk_keep HDC.out HBP.out)
 have HBB := Aside0.mk (below_more HB.out HBP.out)
 have hcall := edit_Latest.calls (n + 1) A0 c0 l0 last (V1.alloc (dotC p0)) (Kd.C_below HR.out HBB.out) HC.out (by rw [latest_is (by have := HL.out; omega) (by rw [Hn.out]; omega), if_pos HS.out, Hla.out])
 rw [Hn.out] at hcall
 have HCALL := Aside0.mk hcall
 clear hcall
 go_wp2_with fail
 refine HCALL.out.mono ?_
 rintro e V2 ⟨rfl, hb⟩
 have HDC := Aside0.mk (blk_keep HDC.out hb)
 have HPC := Aside0.mk (blk_keep HPC.out hb)
 have HGP : Aside0 (w.heap.size < V1.heap.size ∧ V1.heap.size < V2.heap.size) := ⟨HLT.out, blk_lt HPC.out⟩
 have HB := Aside0.mk (below_more HBB.out hb)
 clear hb HCALL HBP HBB
 obtain ⟨gp, Hgp⟩ : ∃ g, Aside0 (V1.heap.size = g) := ⟨_, ⟨rfl⟩⟩
 rw [Hgp.out] at HPC HGP ⊢
 rw [Hgd.out] at HDC HGP ⊢
 obtain ⟨B, HBe⟩ : ∃ b, Aside0 (V2.heap.size = b) := ⟨_, ⟨rfl⟩⟩
 rw [HBe.out] at HGP
 have HWB : Aside0 (w.heap.size ≤ gp ∧ w.heap.size ≤ B) := ⟨by have := HGP.out; have := Hgd.out; omega⟩
 go_wp2_with fail
 go_loopw [13, 31] (fun s i wr => ∃ (k : Nat) (Ao : Option Addr) (co : Nat), s = .slice Ao k co ∧ i = .int .i64 k ∧ k ≤ m ∧ Aside0 (∀ j, j < k → (⟨d.f0, d.f1 + (j : Int)⟩ : Dot) ∉ ks) ∧ Aside0 (RN wr B (.slice Ao k co) ((List.range k).map (nodeE d p0 last rs))) ∧ Aside0 (wr.heap[gd]? = some (dotC d)) ∧ Aside0 (wr.heap[gp]? = some (dotC (parE d p0 k))) ∧ Aside0 (Below w.heap.size w wr) ∧ Aside0 (B ≤ wr.heap.size)) (fun _ i _ => m - (intOf i).toNat)
 case atStart => exact ⟨0, none, 0, rfl, rfl, Nat.zero_le _, ⟨fun j h => absurd h (Nat.not_lt_zero _)⟩, ⟨Kd.R_nil _ _ _ _ _⟩, HDC, HPC, HB, ⟨Nat.le_of_eq HBe.out.symm⟩⟩
 case round =>
  obtain ⟨k, Ao, co, rfl, rfl, hk, HNO, HO, HDC, HPC, HB, HSZ⟩ := hrel
  by_cases hlt : k < m
  ·
   obtain ⟨r, Hr⟩ : ∃ r, Aside0 (rs[k]? = some r) := ⟨_, ⟨List.getElem?_eq_getElem (by rw [Hm.out]; exact hlt)⟩⟩
   obtain ⟨p, Hp⟩ : ∃ p, Aside0 (parE d p0 k = p) := ⟨_, ⟨rfl⟩⟩
   rw [Hp.out] at HPC
   obtain ⟨al, e, _⟩ := rune_at HRR.out HB.out k r Hr.out
   subst e
   obtain ⟨x, Hx⟩ : ∃ x, Aside0 (x = (⟨⟨d.f0, d.f1 + (k : Int)⟩, p, last + 1 + (k : Int), r⟩ : Node)) := ⟨_, ⟨rfl⟩⟩
   have HXE : Aside0 (nodeE d p0 last rs k = x) := ⟨by rw [Hx.out]; unfold nodeE; rw [Hp.out, List.getD_eq_getElem?_getD, Hr.out]; rfl⟩
   have HKM : Aside0 (k < m ∧ m ≤ 10000) := ⟨hlt, HRL.out⟩
   have HW5 : Aside0 (wrap64 (d.f1 + (k : Int)) = d.f1 + (k : Int)) := ⟨by have := HKM.out; have := HD.out; unfold wrap64; omega⟩
   have HW9 : Aside0 (wrap64 (last + 1) = last + 1) := ⟨by have := HKM.out; have := HLA.out; unfold wrap64; omega⟩
   have HW11 : Aside0 (wrap64 (last + 1 + (k : Int)) = last + 1 + (k : Int)) := ⟨by have := HKM.out; have := HLA.out; unfold wrap64; omega⟩
   go_wp2_with fail
   refine AnyOrder.wp_region (by kernel_rfl) (ch9Inv wr.drew al Ao m c1 k co gd gp last r d p _ _ _ _ _ _ _ _ _ _ _ _ _ _ _ _ _ _ _ _ _ _ _ _ _ _ _ _ _ _ _ _ _ _ _ _ _ _ _ _ _ _ _ _ _ _ _ _ _ _ _ _ _ _ _ _ _ _ _ _) ⟨false, false, false, false, false, false, false, false, false, false, false, false, false, false, false, false, false, false, false, 0, rfl, rfl, ⟨⟨fun h => (by cases h), Below.refl _ _, fun h _ => (by cases h), fun h => (by cases h), fun h => (by cases h)⟩⟩⟩ ?step ?last
   case step =>
    rintro L ac V i ⟨l0, l1, l2, l3, l4, l5, l6, l7, l8, l9, l10, l11, l12, l13, l14, l15, l16, l17, l18, g, rfl, rfl, HF⟩ hi K hK
    rcases AnyOrder.up hi [0, 2, 4, 6, 8, 10, 12, 13, 16, 1, 3, 5, 7, 9, 11, 14, 15, 17, 18] rfl with rfl | rfl | rfl | rfl | rfl | rfl | rfl | rfl | rfl | rfl | rfl | rfl | rfl | rfl | rfl | rfl | rfl | rfl | rfl
    all_goals
     replace hi := AnyOrder.first hi rfl
     repeat (obtain ⟨ha, hi⟩ := hi; first | obtain rfl := ha | clear ha)
     clear hi
     try simp only [sel_true, selv_true] at hK ⊢
    iterate 9
     ·
      refine AnyOrder.wpOp_go rfl (by rfl) ?_
      go_wp2_with fail
      exact ⟨_, _, _, _, _, _, _, _, _, _, _, _, _, _, _, _, _, _, _, g, rfl, rfl, HF⟩
    iterate 2
     ·
      obtain ⟨q0, q1⟩ := dot_cells (blk_keep (blk_drew HDC.out) HF.out.below)
      refine AnyOrder.wpOp_go rfl (by rfl) ?_
      go_wp2_with fail
      exact ⟨_, _, _, _, _, _, _, _, _, _, _, _, _, _, _, _, _, _, _, g, rfl, rfl, HF⟩
    ·
     refine AnyOrder.wpOp_go rfl (by rfl) ?_
     go_wp2_with fail
     rw [HW5.out]
     exact ⟨_, _, _, _, _, _, _, _, _, _, _, _, _, _, _, _, _, _, _, g, rfl, rfl, HF⟩
    ·
     obtain ⟨q0, q1⟩ := dot_cells (blk_keep (blk_drew HPC.out) HF.out.below)
     refine AnyOrder.wpOp_go rfl (by rfl) ?_
     go_wp2_with fail
     exact ⟨_, _, _, _, _, _, _, _, _, _, _, _, _, _, _, _, _, _, _, g, rfl, rfl, HF⟩
    ·
     refine AnyOrder.wpOp_go rfl (by rfl) ?_
     go_wp2_with fail
     rw [HW9.out]
     exact ⟨_, _, _, _, _, _, _, _, _, _, _, _, _, _, _, _, _, _, _, g, rfl, rfl, HF⟩
    ·
     refine AnyOrder.wpOp_go rfl (by rfl) ?_
     go_wp2_with fail
     rw [HW11.out]
     exact ⟨_, _, _, _, _, _, _, _, _, _, _, _, _, _, _, _, _, _, _, g, rfl, rfl, HF⟩
    ·
     have hkm := HKM.out
     refine AnyOrder.wpOp_go rfl (by rfl) ?_
     go_wp2_with fail
     exact ⟨_, _, _, _, _, _, _, _, _, _, _, _, _, _, _, _, _, _, _, g, rfl, rfl, HF⟩
    ·
     obtain ⟨al', e, q0⟩ := rune_at HRR.out (below_more HB.out (below_more (below_drew1 (Below.refl _ wr)) HF.out.below)) k r Hr.out
     cases e
     refine AnyOrder.wpOp_go rfl (by rfl) ?_
     go_wp2_with fail
     exact ⟨_, _, _, _, _, _, _, _, _, _, _, _, _, _, _, _, _, _, _, g, rfl, rfl, HF⟩
    ·
     obtain rfl : l18 = false := by cases l18 with | false => rfl | true => cases HF.out.ord rfl
     have hb1 := below_alloc (Below.refl _ V) boxZ
     refine AnyOrder.wpOp_go rfl (by rfl) ?_
     go_wp2_with fail
     exact ⟨_, _, _, _, _, _, _, _, _, _, _, _, _, _, _, _, _, _, _, V.heap.size, rfl, rfl, ⟨⟨fun h => (by cases h), below_more HF.out.below hb1, fun _ _ => blk_new _ _, fun h => (by cases h), fun _ => HF.out.below.size⟩⟩⟩
    ·
     refine AnyOrder.wpOp_go rfl (by rfl) ?_
     refine op_boxNode (.tmp 15) (.tmp 50) rfl rfl (HF.out.bz rfl rfl) ⟨⟨d.f0, d.f1 + (k : Int)⟩, p, last + 1 + (k : Int), r⟩ rfl rfl ?_
     intro W4 h1 h2
     exact hK _ _ ⟨_, _, _, _, _, _, _, _, _, _, _, _, _, _, _, _, _, _, _, g, rfl, rfl, ⟨⟨fun _ => rfl, HF.out.below.grown h2 HF.out.below.size (fun q e => by cases e; exact HF.out.ge rfl), fun _ h => (by cases h), fun _ => h1, HF.out.ge⟩⟩⟩
   case last =>
    rintro L ac V ⟨l0, l1, l2, l3, l4, l5, l6, l7, l8, l9, l10, l11, l12, l13, l14, l15, l16, l17, l18, g, rfl, rfl, HF⟩ hr
    obtain ⟨rfl, rfl, rfl, rfl, rfl, rfl, rfl, rfl, rfl, rfl, rfl, rfl, rfl, rfl, rfl, rfl, rfl, rfl, rfl, -⟩ := AnyOrder.alls rfl (by kernel_rfl) hr
    clear hr
    simp only [sel_true, selv_true]
    have HX : Aside0 (V.heap[g]? = some (boxN x)) := ⟨by rw [Hx.out]; exact HF.out.bx rfl⟩
    have hbb := below_more (below_drew1 (Below.refl _ wr)) HF.out.below
    have HB := Aside0.mk (below_more HB.out hbb)
    have HNE : Aside0 (∀ q, (Value.slice Ao k co).ownBlock = some q → q ≠ g) := ⟨fun q hq => Nat.ne_of_lt (Nat.lt_of_lt_of_le (RN.lt HO.out hq) (HF.out.ge rfl))⟩
    have HGX : Aside0 (B ≤ g) := ⟨Nat.le_trans HSZ.out (HF.out.ge rfl)⟩
    have HO := Aside0.mk (RN.below' HO.out hbb)
    have HDC := Aside0.mk (blk_keep HDC.out hbb)
    have HPC := Aside0.mk (blk_keep HPC.out hbb)
    have HSZ := Aside0.mk (Nat.le_trans HSZ.out hbb.size)
    have HXD : Aside0 (x.f0 = ⟨d.f0, d.f1 + (k : Int)⟩) := ⟨by rw [Hx.out]⟩
    clear HF hbb Hx HW5 HW9 HW11
    generalize g = gx at *
    have HBS := bsearchS_call l0 A0 n c0 x.f0 V ks Hks.out HIB.out Hn.out (by have := HL.out; have := Hn.out; omega) (by have := Kd.C_below HR.out HB.out; rwa [Hn.out] at this)
    obtain ⟨b, Hb⟩ : ∃ b, Aside0 (hasK ks x.f0 = b) := ⟨_, ⟨rfl⟩⟩
    rw [Hb.out] at HBS
    have HBS := Aside0.mk HBS
    obtain ⟨x0, x1, x2, x3, x4, x5⟩ := box_six HX.out
    go_wp2_with fail
    clear x0 x1 x2 x3 x4 x5
    refine HBS.out.mono ?_
    rintro e V4 ⟨rfl, hb⟩
    have HX := Aside0.mk (blk_keep HX.out hb)
    have HDC := Aside0.mk (blk_keep HDC.out hb)
    have HPC := Aside0.mk (blk_keep HPC.out hb)
    have HB := Aside0.mk (below_more HB.out hb)
    have HO := Aside0.mk (RN.below' HO.out hb)
    have HSZ := Aside0.mk (Nat.le_trans HSZ.out hb.size)
    clear hb HBS
    cases b with
    | true =>
     have HRES : Aside0 (chainR l0 d a1 rs = ([], 11)) := ⟨by
      unfold chainR
      rw [if_pos (busy_yes (i := k) (by rw [Hm.out]; exact hlt) (by rw [← HXD.out, Hks.out]; exact (hasK_iff HIB.out _).1 Hb.out))]⟩
     go_wp2
     go_ret2
     rw [HRES.out]
     exact ⟨_, rfl, Kd.R_nil _ _ _ _ _, HB.out⟩
    | false =>
     have HNO : Aside0 (∀ j, j < k + 1 → (⟨d.f0, d.f1 + (j : Int)⟩ : Dot) ∉ ks) := ⟨fun j hj => by
      rcases Nat.lt_succ_iff_lt_or_eq.1 hj with h | h
      ·
       exact HNO.out j h
      ·
       subst h
       rw [← HXD.out]
       intro h
       have := (hasK_iff HIB.out _).2 h
       rw [Hb.out] at this
       cases this⟩
     obtain ⟨out, Hout⟩ : ∃ out, Aside0 ((List.range k).map (nodeE d p0 last rs) = out) := ⟨_, ⟨rfl⟩⟩
     have HOL : Aside0 (out.length = k) := ⟨by rw [← Hout.out, List.length_map, List.length_range]⟩
     have HOS : Aside0 ((List.range (k + 1)).map (nodeE d p0 last rs) = out ++ [x]) := ⟨by rw [List.range_succ, List.map_append, Hout.out, List.map_cons, List.map_nil, HXE.out]⟩
     have HPS : Aside0 (parE d p0 (k + 1) = x.f0) := ⟨HXD.out.symm⟩
     rw [Hout.out] at HO
     go_wp2_with fail
     refine AnyOrder.wp_region (by kernel_rfl) (ch13Inv w al Ao m c1 k co gd gp gx B last d p x out _ _ _ _ _ _ _ _ _ _ _ _ _ _ _ _ _ _ _ _ _ _ _ _ _ _ _ _ _ _ _ _ _ _ _ _ _ _ _ _ _ _ _ _ _ _ _ _ _ _ _ _ _ _ _ _ _ _ _) ⟨false, false, false, false, false, false, false, false, 0, undef, rfl, rfl, ⟨⟨fun h => (by cases h), fun h => (by cases h), below_more HB.out (below_drew1 (Below.refl _ V4)), Nat.le_trans HSZ.out (below_drew1 (Below.refl V4.heap.size V4)).size, fun _ => RN.below' HO.out (below_drew1 (Below.refl _ V4)), fun h _ => (by cases h), fun h => (by cases h), blk_drew HX.out, blk_drew HDC.out, fun _ => blk_drew HPC.out, fun h => (by cases h)⟩⟩⟩ ?step ?last
     case step =>
      rintro L ac V i ⟨l0, l1, l2, l3, l4, l5, l6, l7, g, v2, rfl, rfl, HF⟩ hi K hK
      rcases AnyOrder.up hi [0, 1, 5, 2, 3, 4, 6, 7] rfl with rfl | rfl | rfl | rfl | rfl | rfl | rfl | rfl
      all_goals
       replace hi := AnyOrder.first hi rfl
       repeat (obtain ⟨ha, hi⟩ := hi; first | obtain rfl := ha | clear ha)
       clear hi
       try simp only [sel_true, selv_true] at hK ⊢
      ·
       obtain rfl : l6 = false := by cases l6 with | false => rfl | true => cases (HF.out.ord6 rfl).2
       (try simp only [selv_false] at hK ⊢)
       refine AnyOrder.wpOp_go rfl (by rfl) ?_
       go_wp2_with fail
       exact ⟨_, _, _, _, _, _, _, _, g, v2, rfl, rfl, ⟨⟨HF.out.ord3, fun h => (by cases h), HF.out.below, HF.out.size, HF.out.r1, HF.out.bx, HF.out.r2, HF.out.bn, HF.out.bd, HF.out.bp, HF.out.bq⟩⟩⟩
      iterate 2
       ·
        obtain ⟨q0, q1, q2, q3, q4, q5⟩ := box_six HF.out.bn
        refine AnyOrder.wpOp_go rfl (by rfl) ?_
        go_wp2_with fail
        exact ⟨_, _, _, _, _, _, _, _, g, v2, rfl, rfl, HF⟩
      ·
       obtain rfl : l3 = false := by cases l3 with | false => rfl | true => cases HF.out.ord3 rfl
       obtain rfl : l6 = false := by cases l6 with | false => rfl | true => cases (HF.out.ord6 rfl).1
       have hb1 := below_alloc (Below.refl _ V) (boxN x)
       (try simp only [selv_false] at hK ⊢)
       refine AnyOrder.wpOp_go rfl (by rfl) ?_
       go_wp2_with fail
       exact ⟨_, _, _, _, _, _, _, _, V.heap.size, v2, rfl, rfl, ⟨⟨fun h => (by cases h), fun h => (by cases h), below_more HF.out.below hb1, Nat.le_trans HF.out.size hb1.size, fun _ => RN.below' (HF.out.r1 rfl) hb1, fun _ _ => blk_new _ _, fun h => (by cases h), blk_keep HF.out.bn hb1, blk_keep HF.out.bd hb1, fun h => blk_keep (HF.out.bp h) hb1, fun h => blk_keep (HF.out.bq h) hb1⟩⟩⟩
      ·
       obtain rfl : l6 = false := by cases l6 with | false => rfl | true => cases (HF.out.ord6 rfl).1
       have hr1 := HF.out.r1 rfl
       (try simp only [selv_false] at hK ⊢)
       refine AnyOrder.wpOp_go rfl (by rfl) ?_
       refine op_append_rows Tryz.underlying23 B rfl (.tmp 59) (.tmp 61) rfl (.slice Ao k co) out [x] (some ⟨g, 0, none⟩) 1 1 rfl rfl hr1 (boxN_C (HF.out.bx rfl rfl)) HF.out.size (by have := HOL.out; have := HKM.out; omega) ?_
       intro v3 W3 h1 h2 _
       have far : ∀ {q : Nat} {o : Obj}, V.heap[q]? = some o → ((Value.slice Ao k co).ownBlock = some q → False) → W3.heap[q]? = some o := fun hq hn => (h2.block _ (blk_lt hq) (fun e => hn e.symm)).trans hq
       exact hK _ _ ⟨_, _, _, _, _, _, _, _, g, v3, rfl, rfl, ⟨⟨fun _ => rfl, fun h => (by cases h), HF.out.below.grown h2 HF.out.below.size (fun q e => Nat.le_trans HWB.out.2 (RN.block hr1 e).1), Nat.le_trans HF.out.size h2.size, fun h => (by cases h), fun _ => fun h => (by cases h), fun _ => h1, far HF.out.bn (fun e => HNE.out _ e rfl), far HF.out.bd (fun e => absurd (RN.block hr1 e).1 (by have := HGP.out; omega)), fun h => far (HF.out.bp h) (fun e => absurd (RN.block hr1 e).1 (by have := HGP.out; omega)), fun h => far (HF.out.bq h) (fun e => absurd (RN.block hr1 e).1 (by have := HGP.out; omega))⟩⟩⟩
      ·
       refine AnyOrder.wpOp_go rfl (by rfl) ?_
       go_wp2_with fail
       exact ⟨_, _, _, _, _, _, _, _, g, v2, rfl, rfl, HF⟩
      ·
       refine AnyOrder.wpOp_go rfl (by rfl) ?_
       go_wp2_with fail
       exact ⟨_, _, _, _, _, _, _, _, g, v2, rfl, rfl, ⟨⟨HF.out.ord3, fun _ => ⟨rfl, rfl⟩, HF.out.below, HF.out.size, HF.out.r1, HF.out.bx, HF.out.r2, HF.out.bn, HF.out.bd, HF.out.bp, HF.out.bq⟩⟩⟩
      ·
       refine AnyOrder.wpOp_go rfl (by rfl) ?_
       refine op_boxDot (.tmp 10) (.tmp 64) rfl rfl (HF.out.bp rfl) x.f0 rfl rfl ?_
       intro W4 h1 h2
       have far : ∀ {q : Nat} {o : Obj}, V.heap[q]? = some o → q ≠ gp → W4.heap[q]? = some o := fun hq hn => (h2.block _ (blk_lt hq) (fun e => hn (Option.some.inj e))).trans hq
       exact hK _ _ ⟨_, _, _, _, _, _, _, _, g, v2, rfl, rfl, ⟨⟨HF.out.ord3, HF.out.ord6, HF.out.below.grown h2 HF.out.below.size (fun q e => by cases e; exact HWB.out.1), Nat.le_trans HF.out.size h2.size, fun h => (by cases h), fun _ => fun h => (by cases h), fun _ => RN.keep (HF.out.r2 rfl) (fun q hq => h2.block q (RN.lt (HF.out.r2 rfl) hq) (fun e => absurd (RN.block (HF.out.r2 rfl) hq).1 (by have := HGP.out; have := Option.some.inj e; omega))), far HF.out.bn (by have := HGX.out; have := HGP.out; omega), far HF.out.bd (by have := HGP.out; omega), fun h => (by cases h), fun _ => h1⟩⟩⟩
     case last =>
      rintro L ac V ⟨l0, l1, l2, l3, l4, l5, l6, l7, g, v2, rfl, rfl, HF⟩ hr
      obtain ⟨rfl, rfl, rfl, rfl, rfl, rfl, rfl, rfl, -⟩ := AnyOrder.alls rfl (by kernel_rfl) hr
      clear hr
      simp only [sel_true, selv_true]
      have HB := Aside0.mk HF.out.below
      have HO := Aside0.mk (HF.out.r2 rfl)
      have HDC := Aside0.mk HF.out.bd
      have HPC : Aside0 (V.heap[gp]? = some (dotC (parE d p0 (k + 1)))) := ⟨by rw [HPS.out]; exact HF.out.bq rfl⟩
      have HSZ := Aside0.mk HF.out.size
      obtain ⟨A3, c3, rfl⟩ := RN.slice HO.out
      have HL3 : Aside0 ((out ++ [x]).length = k + 1) := ⟨by rw [List.length_append, HOL.out]; rfl⟩
      rw [HL3.out] at HO ⊢
      rw [← HOS.out] at HO
      have hkm := HKM.out
      clear HF
      go_wp2
      go_roundw
      case rel => exact ⟨k + 1, A3, c3, rfl, by go_num, by omega, HNO, HO, HDC, HPC, HB, HSZ⟩
      case measure => simp [intOf]; omega
  ·
   obtain rfl : k = m := by omega
   have HRES : Aside0 (chainR l0 d a1 rs = ((List.range k).map (nodeE d p0 last rs), 0)) := ⟨by
    unfold chainR
    rw [Hm.out, if_neg (by rw [busy_no (by rw [Hks.out]; exact HNO.out)]; decide), Hp0.out, Hla.out]
    unfold chainE
    rw [Hm.out]⟩
   go_wp2
   go_ret2
   rw [HRES.out]
   exact ⟨_, rfl, Kd.R_lower HO.out HWB.out.2, HB.out⟩
end Go.Proofs.YtmbndijbpgobeaaGreat.PWalk
end
section
namespace Go.Proofs.YtmbndijbpgobeaaGreat.PWalk
open Go.RowKit Go.Proofs.YtmbndijbpgobeaaGreatW.PrintWords Go.Proofs.YtmbndijbpgobeaaGreatW.PrintLast Go.Proofs.YtmbndijbpgobeaaGreatW.PrintMore
set_option linter.unusedVariables false
set_option linter.unusedSimpArgs false
open Go.Shelf
attribute [local go_sem] Oper.semAt_some
theorem badRune2_call (r : Int) (W : World) : Calls Tryz.prog 49 #[.int .i32 r] W fun e W' => e = .returned (.bool (!runeOk r)) ∧ Below W.heap.size W W' := by
 go_enter Tryz.func49, Tryz.ntmps49
 go_wp2_with fail
 refine (runes_Valid.calls 10 r (runeOk r) W (runesValid_is 9 r)).mono ?_
 rintro e W' ⟨rfl, hd⟩
 have HB := Aside0.mk (hd.below)
 clear hd
 go_wp2
 go_ret
 exact ⟨rfl, HB.out⟩
def wellB (l : List Node) : Bool := (faultsOf l).isEmpty
def lateE (l : List Node) : Int := if storeOk l = true then lastOf l else 0
/-- The first error of a replacement. -/
def errE (l : List Node) (d : Dot) (a n : Int) (rs : List Int) : Int :=
 firstE [if (!wellB l || !dotOk d) = true then 2 else 0, spanE l a n, if (decide (n > 10000) || decide ((rs.length : Int) > 10000)) = true then 5 else 0, if (rs.any fun r => !runeOk r) = true then 13 else 0,
  if (decide (d.f1 > wrap64 (wrap64 (4294967295 - (rs.length : Int)) + 1)) || decide (lateE l > wrap64 (4611686018427387904 - (rs.length : Int)))) = true then 14 else 0]
/-- What a replacement answers. -/
def replR (l : List Node) (d : Dot) (a n : Int) (rs : List Int) : List Node × Int :=
 if errE l d a n rs ≠ 0 then ([], errE l d a n rs) else if (chainR l d a rs).2 ≠ 0 then ([], (chainR l d a rs).2) else joinR (delE l a n).1 (chainR l d a rs).1
def edit_Replace.f (l0 : List Node) (a1_0 a1_1 a2 a3 : Int) (l4 : List Int) : Option (List Node × Int) := if l0.length ≤ 300000 ∧ l4.length ≤ 20000 then some (replR l0 ⟨a1_0, a1_1⟩ a2 a3 l4) else none
theorem firstE_zero {a b c d e : Int} (h : firstE [a, b, c, d, e] = 0) : a = 0 ∧ b = 0 ∧ c = 0 ∧ d = 0 ∧ e = 0 := by
 simp only [firstE] at h
 by_cases h1 : a = 0
 ·
  rw [if_pos h1] at h
  by_cases h2 : b = 0
  ·
   rw [if_pos h2] at h
   by_cases h3 : c = 0
   ·
    rw [if_pos h3] at h
    by_cases h4 : d = 0
    ·
     rw [if_pos h4] at h
     by_cases h5 : e = 0
     ·
      exact ⟨h1, h2, h3, h4, h5⟩
     ·
      rw [if_neg h5] at h; exact absurd h h5
    ·
     rw [if_neg h4] at h; exact absurd h h4
   ·
    rw [if_neg h3] at h; exact absurd h h3
  ·
   rw [if_neg h2] at h; exact absurd h h2
 ·
  rw [if_neg h1] at h; exact absurd h h1
theorem ite_zero {p : Bool} {v : Int} (hv : v ≠ 0) (h : (if p = true then v else 0) = 0) : p = false := by
 cases p with
 | false => rfl
 | true => exact absurd h hv
theorem err_zero {l : List Node} {d : Dot} {a n : Int} {rs : List Int} (hrs : rs.length ≤ 20000) (h : errE l d a n rs = 0) :
  faultsOf l = [] ∧ dotOk d = true ∧ spanE l a n = 0 ∧ ¬ n > 10000 ∧ rs.length ≤ 10000 ∧ (∀ r ∈ rs, runeOk r = true) ∧ d.f1 + (rs.length : Int) ≤ 4294967296 ∧ lastOf l + (rs.length : Int) ≤ 4611686018427387904 := by
 obtain ⟨h1, h2, h3, h4, h5⟩ := firstE_zero h
 have g1 := ite_zero (by decide) h1
 have g3 := ite_zero (by decide) h3
 have g4 := ite_zero (by decide) h4
 have g5 := ite_zero (by decide) h5
 rw [Bool.or_eq_false_iff] at g1 g3 g5
 have hw : faultsOf l = [] := by
  have := g1.1
  unfold wellB at this
  rw [Bool.not_eq_false'] at this
  exact List.isEmpty_iff.1 this
 have e1 : wrap64 (wrap64 (4294967295 - (rs.length : Int)) + 1) = 4294967296 - (rs.length : Int) := by unfold wrap64; omega
 have e2 : wrap64 (4611686018427387904 - (rs.length : Int)) = 4611686018427387904 - (rs.length : Int) := by unfold wrap64; omega
 have k1 := of_decide_eq_false g5.1
 have k2 := of_decide_eq_false g5.2
 rw [e1] at k1
 rw [e2] at k2
 unfold lateE at k2
 rw [if_pos (well_store hw)] at k2
 refine ⟨hw, by have := g1.2; rwa [Bool.not_eq_false'] at this, h2, of_decide_eq_false g3.1, by have := of_decide_eq_false g3.2; omega, fun r hr => ?_, by omega, by omega⟩
 have := List.any_eq_false.1 g4 r hr
 simpa using this
theorem mx_le (a b : Int) : a ≤ mx a b ∧ b ≤ mx a b := by
 unfold mx
 split <;> constructor <;> omega
theorem last_ge : ∀ (l : List Node) (t : Int), t ≤ l.foldl (fun t x => mx t x.f2) t
 | [], t => Int.le_refl _
 | x :: l, t => Int.le_trans (mx_le t x.f2).1 (last_ge l _)
set_option maxHeartbeats 4000000 in
set_option maxRecDepth 100000 in
theorem edit_Replace.calls (A0 : Option Addr) (c0 : Nat) (l0 : List Node) (a1_0 a1_1 a2 a3 : Int) (A4 : Option Addr) (c4 : Nat) (l4 : List Int) (r1 : List Node) (r2 : Int) (w : World) (hr0 : Kd.C k53 w A0 l0.length l0) (hc0 : l0.length ≤ c0) (hr4 : Kd.C (Kd.int .i32) w A4 l4.length l4) (hc4 : l4.length ≤ c4) (h : edit_Replace.f l0 a1_0 a1_1 a2 a3 l4 = some (r1, r2)) :
  Calls Tryz.prog 22 #[.slice A0 l0.length c0, .agg #[.int .i64 a1_0, .int .i64 a1_1], .int .i64 a2, .int .i64 a3, .slice A4 l4.length c4] w fun e w' => ∃ v0_ : Value, e = .returned (.tuple #[v0_, .int .i64 r2]) ∧ Kd.R k53 53 w' w.heap.size (fun _ => True) v0_ r1 ∧ Below w.heap.size w w' := by
 unfold edit_Replace.f at h
 by_cases hl : l0.length ≤ 300000 ∧ l4.length ≤ 20000
 rotate_left
 ·
  rw [if_neg hl] at h; cases h
 rw [if_pos hl] at h
 obtain ⟨d, hd⟩ : ∃ d : Dot, d = ⟨a1_0, a1_1⟩ := ⟨_, rfl⟩
 rw [← hd] at h
 rw [show a1_0 = d.f0 by rw [hd], show a1_1 = d.f1 by rw [hd]]
 clear hd
 have HRES := Aside0.mk (Option.some.inj h)
 have HL := Aside0.mk hl
 have HR := Aside0.mk hr0
 have HC := Aside0.mk hc0
 have HR4 := Aside0.mk hr4
 have HC4 := Aside0.mk hc4
 obtain ⟨n, Hn⟩ : ∃ n, Aside0 (l0.length = n) := ⟨_, ⟨rfl⟩⟩
 obtain ⟨m, Hm⟩ : ∃ m, Aside0 (l4.length = m) := ⟨_, ⟨rfl⟩⟩
 obtain ⟨b, Hb⟩ : ∃ b, Aside0 (wellB l0 = b) := ⟨_, ⟨rfl⟩⟩
 obtain ⟨dv, Hdv⟩ : ∃ b, Aside0 (dotOk d = b) := ⟨_, ⟨rfl⟩⟩
 obtain ⟨sp, Hsp⟩ : ∃ s, Aside0 (spanE l0 a2 a3 = s) := ⟨_, ⟨rfl⟩⟩
 obtain ⟨bn, Hbn⟩ : ∃ b, Aside0 (decide (a3 > 10000) = b) := ⟨_, ⟨rfl⟩⟩
 obtain ⟨odd, Hod⟩ : ∃ b, Aside0 ((l4.any fun r => !runeOk r) = b) := ⟨_, ⟨rfl⟩⟩
 obtain ⟨cnt, Hcn⟩ : ∃ b, Aside0 (decide (d.f1 > wrap64 (wrap64 (4294967295 - (m : Int)) + 1)) = b) := ⟨_, ⟨rfl⟩⟩
 obtain ⟨late, Hlt⟩ : ∃ t, Aside0 (lateE l0 = t) := ⟨_, ⟨rfl⟩⟩
 obtain ⟨w1, Hw1⟩ : ∃ q : Int, Aside0 ((if (!b || !dv) = true then 2 else 0) = q) := ⟨_, ⟨rfl⟩⟩
 obtain ⟨w3, Hw3⟩ : ∃ q : Int, Aside0 ((if (bn || decide ((m : Int) > 10000)) = true then 5 else 0) = q) := ⟨_, ⟨rfl⟩⟩
 obtain ⟨w4, Hw4⟩ : ∃ q : Int, Aside0 ((if odd = true then 13 else 0) = q) := ⟨_, ⟨rfl⟩⟩
 obtain ⟨w5, Hw5⟩ : ∃ q : Int, Aside0 ((if (cnt || decide (late > wrap64 (4611686018427387904 - (m : Int)))) = true then 14 else 0) = q) := ⟨_, ⟨rfl⟩⟩
 obtain ⟨er, Her⟩ : ∃ q : Int, Aside0 (firstE [w1, sp, w3, w4, w5] = q) := ⟨_, ⟨rfl⟩⟩
 have HERR : Aside0 (errE l0 d a2 a3 l4 = er) := ⟨by
  unfold errE
  rw [Hm.out, Hb.out, Hdv.out, Hsp.out, Hbn.out, Hod.out, Hcn.out, Hlt.out, Hw1.out, Hw3.out, Hw4.out, Hw5.out, Her.out]⟩
 have HWELL : Aside0 (∀ W, Below w.heap.size w W → Calls Tryz.prog 51 #[.slice A0 n c0] W fun e w' => e = .returned (.bool b) ∧ Below W.heap.size W w') := ⟨fun W hb => by
  rw [← Hn.out]
  refine shape_Well.calls A0 c0 l0 b W (Kd.C_below hr0 hb) hc0 ?_
  have hbo := Hb.out
  unfold wellB at hbo
  cases hb2 : b with
  | true => rw [hb2] at hbo; exact well_yes (by omega) (List.isEmpty_iff.1 hbo)
  | false => rw [hb2] at hbo; exact well_no (by omega) fun h => by rw [h] at hbo; cases hbo⟩
 have HSPAN : Aside0 (∀ W, Below w.heap.size w W → Calls Tryz.prog 41 #[.slice A0 n c0, .int .i64 a2, .int .i64 a3] W fun e w' => e = .returned (.int .i64 sp) ∧ Below W.heap.size W w') := ⟨fun W hb => by
  rw [← Hn.out]
  exact edit_span.calls 3 A0 c0 l0 a2 a3 sp W (Kd.C_below hr0 hb) hc0 (by rw [span_is (by omega) a2 a3 (Nat.le_refl 3), Hsp.out])⟩
 have HLATE : Aside0 (∀ W, Below w.heap.size w W → Calls Tryz.prog 23 #[.slice A0 n c0] W fun e w' => e = .returned (.int .i64 late) ∧ Below W.heap.size W w') := ⟨fun W hb => by
  rw [← Hn.out]
  exact edit_Latest.calls (l0.length + 1) A0 c0 l0 late W (Kd.C_below hr0 hb) hc0 (by rw [latest_is (by omega) (by omega)]; exact congrArg some Hlt.out)⟩
 have HDC := Aside0.mk (blk_new w (dotC d))
 have HB := Aside0.mk (below_alloc (Below.refl _ w) (dotC d))
 have hcall := ContainsFuncRune.calls (fun r => !runeOk r) 49 A4 c4 l4 (w.alloc (dotC d)) (Kd.C_below hr4 HB.out) hc4 (enters_of Tryz.func49 (by kernel_rfl) rfl) badRune2_call
 rw [Hm.out, Hod.out] at hcall
 rw [Hn.out, Hm.out]
 have HCALL := Aside0.mk hcall
 have hu2 := Tryz.underlying25
 clear hcall h hl hr0 hc0 hr4 hc4
 go_enter Tryz.func22, Tryz.ntmps22
 go_wp2_with fail
 refine HCALL.out.mono ?_
 rintro e V1 ⟨rfl, hb⟩
 have HDC := Aside0.mk (blk_keep HDC.out hb)
 have HB := Aside0.mk (below_more HB.out hb)
 have hc1 : decide (d.f1 > wrap64 (wrap64 (4294967295 - (m : Int)) + 1)) = cnt := Hcn.out
 have hc2 : decide (wrap64 (wrap64 (4294967295 - (m : Int)) + 1) < d.f1) = cnt := Hcn.out
 obtain ⟨x0, x1⟩ := dot_cells HDC.out
 clear hb HCALL
 go_wp2_with fail
 clear x0 x1 hc1 hc2
 refine (HWELL.out V1 HB.out).mono ?_
 rintro e V2 ⟨rfl, hb⟩
 have HDC := Aside0.mk (blk_keep HDC.out hb)
 have HB := Aside0.mk (below_more HB.out hb)
 clear hb HWELL
 cases b
 ·
  go_wp2_with fail
  refine (edit_when.calls true 2 w1 V2 (by rw [ewhen_is]; exact congrArg some Hw1.out)).mono ?_
  rintro e V3 ⟨rfl, hd⟩
  have HDC := Aside0.mk (blk_keep HDC.out (Gr.drawn hd).below)
  have HB := Aside0.mk (below_more HB.out (Gr.drawn hd).below)
  clear hd
  go_wp2_with fail
  refine (HSPAN.out V3 HB.out).mono ?_
  rintro e V4 ⟨rfl, hb⟩
  have HDC := Aside0.mk (blk_keep HDC.out hb)
  have HB := Aside0.mk (below_more HB.out hb)
  clear hb
  have hb1 : decide (a3 > 10000) = bn := Hbn.out
  have hb2 : decide (10000 < a3) = bn := Hbn.out
  cases bn
  ·
   go_wp2_with fail
   refine (edit_when.calls (decide ((m : Int) > 10000)) 5 w3 V4 (by rw [ewhen_is]; exact congrArg some Hw3.out)).mono ?_
   rintro e V5 ⟨rfl, hd⟩
   have HDC := Aside0.mk (blk_keep HDC.out (Gr.drawn hd).below)
   have HB := Aside0.mk (below_more HB.out (Gr.drawn hd).below)
   clear hd
   go_wp2_with fail
   refine (edit_when.calls odd 13 w4 V5 (by rw [ewhen_is]; exact congrArg some Hw4.out)).mono ?_
   rintro e V6 ⟨rfl, hd⟩
   have HDC := Aside0.mk (blk_keep HDC.out (Gr.drawn hd).below)
   have HB := Aside0.mk (below_more HB.out (Gr.drawn hd).below)
   clear hd
   cases cnt
   ·
    go_wp2_with fail
    refine (HLATE.out V6 HB.out).mono ?_
    rintro e V7 ⟨rfl, hb⟩
    have HDC := Aside0.mk (blk_keep HDC.out hb)
    have HB := Aside0.mk (below_more HB.out hb)
    clear hb
    have hb1 : decide (late > wrap64 (4611686018427387904 - (m : Int))) = decide (wrap64 (4611686018427387904 - (m : Int)) < late) := rfl
    go_wp2_with fail
    clear hb1
    refine (edit_when.calls (decide (late > wrap64 (4611686018427387904 - (m : Int)))) 14 w5 V7 (by rw [ewhen_is]; exact congrArg some Hw5.out)).mono ?_
    rintro e V8 ⟨rfl, hd⟩
    have HDC := Aside0.mk (blk_keep HDC.out (Gr.drawn hd).below)
    have HB := Aside0.mk (below_more HB.out (Gr.drawn hd).below)
    clear hd
    go_wp2_with fail
    refine (edit_first.calls 6 _ 5 [w1, sp, w3, w4, w5] er _ (intRow_C [w1, sp, w3, w4, w5] _ rfl (blk_new _ _) (by simp)) (Nat.le_refl _) (by rw [efirst_is _ (by simp) (by show 5 < 6; omega), Her.out])).mono ?_
    rintro e V9 ⟨rfl, hd⟩
    have hbb := below_more (below_alloc (Below.refl V8.heap.size V8) _) (Gr.drawn hd).below
    have HDC := Aside0.mk (blk_keep HDC.out hbb)
    have HB := Aside0.mk (below_more HB.out hbb)
    clear hd hbb
    have he : er ≠ 0 := fun h => by
     have hz := firstE_zero (Her.out.trans h)
     have := Hw1.out
     rw [hz.1] at this
     exact absurd (ite_zero (by decide) this) (by simp)
    have hne : (er == 0) = false := beq_eq_false_iff_ne.2 he
    have HNE := Aside0.mk he
    clear he
    go_wp2
    go_ret2
    have h := HRES.out
    unfold replR at h
    rw [HERR.out, if_pos HNE.out] at h
    cases h
    exact ⟨_, rfl, Kd.R_nil _ _ _ _ _, HB.out⟩
   ·
    go_wp2_with fail
    generalize V6 = V7 at *
    refine (edit_when.calls true 14 w5 V7 (by rw [ewhen_is]; exact congrArg some Hw5.out)).mono ?_
    rintro e V8 ⟨rfl, hd⟩
    have HDC := Aside0.mk (blk_keep HDC.out (Gr.drawn hd).below)
    have HB := Aside0.mk (below_more HB.out (Gr.drawn hd).below)
    clear hd
    go_wp2_with fail
    refine (edit_first.calls 6 _ 5 [w1, sp, w3, w4, w5] er _ (intRow_C [w1, sp, w3, w4, w5] _ rfl (blk_new _ _) (by simp)) (Nat.le_refl _) (by rw [efirst_is _ (by simp) (by show 5 < 6; omega), Her.out])).mono ?_
    rintro e V9 ⟨rfl, hd⟩
    have hbb := below_more (below_alloc (Below.refl V8.heap.size V8) _) (Gr.drawn hd).below
    have HDC := Aside0.mk (blk_keep HDC.out hbb)
    have HB := Aside0.mk (below_more HB.out hbb)
    clear hd hbb
    have he : er ≠ 0 := fun h => by
     have hz := firstE_zero (Her.out.trans h)
     have := Hw1.out
     rw [hz.1] at this
     exact absurd (ite_zero (by decide) this) (by simp)
    have hne : (er == 0) = false := beq_eq_false_iff_ne.2 he
    have HNE := Aside0.mk he
    clear he
    go_wp2
    go_ret2
    have h := HRES.out
    unfold replR at h
    rw [HERR.out, if_pos HNE.out] at h
    cases h
    exact ⟨_, rfl, Kd.R_nil _ _ _ _ _, HB.out⟩
  ·
   go_wp2_with fail
   refine (edit_when.calls true 5 w3 V4 (by rw [ewhen_is]; exact congrArg some Hw3.out)).mono ?_
   rintro e V5 ⟨rfl, hd⟩
   have HDC := Aside0.mk (blk_keep HDC.out (Gr.drawn hd).below)
   have HB := Aside0.mk (below_more HB.out (Gr.drawn hd).below)
   clear hd
   go_wp2_with fail
   refine (edit_when.calls odd 13 w4 V5 (by rw [ewhen_is]; exact congrArg some Hw4.out)).mono ?_
   rintro e V6 ⟨rfl, hd⟩
   have HDC := Aside0.mk (blk_keep HDC.out (Gr.drawn hd).below)
   have HB := Aside0.mk (below_more HB.out (Gr.drawn hd).below)
   clear hd
   cases cnt
   ·
    go_wp2_with fail
    refine (HLATE.out V6 HB.out).mono ?_
    rintro e V7 ⟨rfl, hb⟩
    have HDC := Aside0.mk (blk_keep HDC.out hb)
    have HB := Aside0.mk (below_more HB.out hb)
    clear hb
    have hb1 : decide (late > wrap64 (4611686018427387904 - (m : Int))) = decide (wrap64 (4611686018427387904 - (m : Int)) < late) := rfl
    go_wp2_with fail
    clear hb1
    refine (edit_when.calls (decide (late > wrap64 (4611686018427387904 - (m : Int)))) 14 w5 V7 (by rw [ewhen_is]; exact congrArg some Hw5.out)).mono ?_
    rintro e V8 ⟨rfl, hd⟩
    have HDC := Aside0.mk (blk_keep HDC.out (Gr.drawn hd).below)
    have HB := Aside0.mk (below_more HB.out (Gr.drawn hd).below)
    clear hd
    go_wp2_with fail
    refine (edit_first.calls 6 _ 5 [w1, sp, w3, w4, w5] er _ (intRow_C [w1, sp, w3, w4, w5] _ rfl (blk_new _ _) (by simp)) (Nat.le_refl _) (by rw [efirst_is _ (by simp) (by show 5 < 6; omega), Her.out])).mono ?_
    rintro e V9 ⟨rfl, hd⟩
    have hbb := below_more (below_alloc (Below.refl V8.heap.size V8) _) (Gr.drawn hd).below
    have HDC := Aside0.mk (blk_keep HDC.out hbb)
    have HB := Aside0.mk (below_more HB.out hbb)
    clear hd hbb
    have he : er ≠ 0 := fun h => by
     have hz := firstE_zero (Her.out.trans h)
     have := Hw1.out
     rw [hz.1] at this
     exact absurd (ite_zero (by decide) this) (by simp)
    have hne : (er == 0) = false := beq_eq_false_iff_ne.2 he
    have HNE := Aside0.mk he
    clear he
    go_wp2
    go_ret2
    have h := HRES.out
    unfold replR at h
    rw [HERR.out, if_pos HNE.out] at h
    cases h
    exact ⟨_, rfl, Kd.R_nil _ _ _ _ _, HB.out⟩
   ·
    go_wp2_with fail
    generalize V6 = V7 at *
    refine (edit_when.calls true 14 w5 V7 (by rw [ewhen_is]; exact congrArg some Hw5.out)).mono ?_
    rintro e V8 ⟨rfl, hd⟩
    have HDC := Aside0.mk (blk_keep HDC.out (Gr.drawn hd).below)
    have HB := Aside0.mk (below_more HB.out (Gr.drawn hd).below)
    clear hd
    go_wp2_with fail
    refine (edit_first.calls 6 _ 5 [w1, sp, w3, w4, w5] er _ (intRow_C [w1, sp, w3, w4, w5] _ rfl (blk_new _ _) (by simp)) (Nat.le_refl _) (by rw [efirst_is _ (by simp) (by show 5 < 6; omega), Her.out])).mono ?_
    rintro e V9 ⟨rfl, hd⟩
    have hbb := below_more (below_alloc (Below.refl V8.heap.size V8) _) (Gr.drawn hd).below
    have HDC := Aside0.mk (blk_keep HDC.out hbb)
    have HB := Aside0.mk (below_more HB.out hbb)
    clear hd hbb
    have he : er ≠ 0 := fun h => by
     have hz := firstE_zero (Her.out.trans h)
     have := Hw1.out
     rw [hz.1] at this
     exact absurd (ite_zero (by decide) this) (by simp)
    have hne : (er == 0) = false := beq_eq_false_iff_ne.2 he
    have HNE := Aside0.mk he
    clear he
    go_wp2
    go_ret2
    have h := HRES.out
    unfold replR at h
    rw [HERR.out, if_pos HNE.out] at h
    cases h
    exact ⟨_, rfl, Kd.R_nil _ _ _ _ _, HB.out⟩
 ·
  obtain ⟨x0, x1⟩ := dot_cells HDC.out
  go_wp2_with fail
  clear x0 x1
  refine (dot_Valid.calls d.f0 d.f1 dv V2 (by rw [dotValid_is, Hdv.out])).mono ?_
  rintro e V21 ⟨rfl, hb⟩
  have HDC := Aside0.mk (blk_keep HDC.out hb)
  have HB := Aside0.mk (below_more HB.out hb)
  clear hb
  go_wp2_with fail
  refine (edit_when.calls (!dv) 2 w1 V21 (by rw [ewhen_is]; exact congrArg some Hw1.out)).mono ?_
  rintro e V3 ⟨rfl, hd⟩
  have HDC := Aside0.mk (blk_keep HDC.out (Gr.drawn hd).below)
  have HB := Aside0.mk (below_more HB.out (Gr.drawn hd).below)
  clear hd
  go_wp2_with fail
  refine (HSPAN.out V3 HB.out).mono ?_
  rintro e V4 ⟨rfl, hb⟩
  have HDC := Aside0.mk (blk_keep HDC.out hb)
  have HB := Aside0.mk (below_more HB.out hb)
  clear hb
  have hb1 : decide (a3 > 10000) = bn := Hbn.out
  have hb2 : decide (10000 < a3) = bn := Hbn.out
  cases bn
  ·
   go_wp2_with fail
   refine (edit_when.calls (decide ((m : Int) > 10000)) 5 w3 V4 (by rw [ewhen_is]; exact congrArg some Hw3.out)).mono ?_
   rintro e V5 ⟨rfl, hd⟩
   have HDC := Aside0.mk (blk_keep HDC.out (Gr.drawn hd).below)
   have HB := Aside0.mk (below_more HB.out (Gr.drawn hd).below)
   clear hd
   go_wp2_with fail
   refine (edit_when.calls odd 13 w4 V5 (by rw [ewhen_is]; exact congrArg some Hw4.out)).mono ?_
   rintro e V6 ⟨rfl, hd⟩
   have HDC := Aside0.mk (blk_keep HDC.out (Gr.drawn hd).below)
   have HB := Aside0.mk (below_more HB.out (Gr.drawn hd).below)
   clear hd
   cases cnt
   ·
    go_wp2_with fail
    refine (HLATE.out V6 HB.out).mono ?_
    rintro e V7 ⟨rfl, hb⟩
    have HDC := Aside0.mk (blk_keep HDC.out hb)
    have HB := Aside0.mk (below_more HB.out hb)
    clear hb
    have hb1 : decide (late > wrap64 (4611686018427387904 - (m : Int))) = decide (wrap64 (4611686018427387904 - (m : Int)) < late) := rfl
    go_wp2_with fail
    clear hb1
    refine (edit_when.calls (decide (late > wrap64 (4611686018427387904 - (m : Int)))) 14 w5 V7 (by rw [ewhen_is]; exact congrArg some Hw5.out)).mono ?_
    rintro e V8 ⟨rfl, hd⟩
    have HDC := Aside0.mk (blk_keep HDC.out (Gr.drawn hd).below)
    have HB := Aside0.mk (below_more HB.out (Gr.drawn hd).below)
    clear hd
    go_wp2_with fail
    refine (edit_first.calls 6 _ 5 [w1, sp, w3, w4, w5] er _ (intRow_C [w1, sp, w3, w4, w5] _ rfl (blk_new _ _) (by simp)) (Nat.le_refl _) (by rw [efirst_is _ (by simp) (by show 5 < 6; omega), Her.out])).mono ?_
    rintro e V9 ⟨rfl, hd⟩
    have hbb := below_more (below_alloc (Below.refl V8.heap.size V8) _) (Gr.drawn hd).below
    have HDC := Aside0.mk (blk_keep HDC.out hbb)
    have HB := Aside0.mk (below_more HB.out hbb)
    clear hd hbb
    by_cases he : er = 0
    rotate_left
    ·
     have hne : (er == 0) = false := beq_eq_false_iff_ne.2 he
     have HNE := Aside0.mk he
     clear he
     go_wp2
     go_ret2
     have h := HRES.out
     unfold replR at h
     rw [HERR.out, if_pos HNE.out] at h
     cases h
     exact ⟨_, rfl, Kd.R_nil _ _ _ _ _, HB.out⟩
    have HZ := Aside0.mk (err_zero (by have := HL.out.2; omega) (HERR.out.trans he))
    have HST := Aside0.mk (well_store HZ.out.1)
    have HS := Aside0.mk (span_zero HZ.out.2.2.1)
    have hcall := chain_call A0 c0 l0 d a2 A4 c4 l4 V9 (Kd.C_below HR.out HB.out) HC.out (Kd.C_below HR4.out HB.out) HC4.out (by have := HL.out; omega) HZ.out.2.2.2.2.1 HST.out ⟨HS.out.2.1, HS.out.2.2.2.1⟩ ⟨by have := HZ.out.2.1; unfold dotOk at this; have := of_decide_eq_true this; omega, HZ.out.2.2.2.2.2.2.1⟩ ⟨last_ge l0 0, HZ.out.2.2.2.2.2.2.2⟩
    obtain ⟨mo, Hmo⟩ : ∃ q, Aside0 ((chainR l0 d a2 l4).1 = q) := ⟨_, ⟨rfl⟩⟩
    obtain ⟨e1, He1⟩ : ∃ q, Aside0 ((chainR l0 d a2 l4).2 = q) := ⟨_, ⟨rfl⟩⟩
    rw [Hmo.out, He1.out, Hn.out, Hm.out] at hcall
    have HCALL := Aside0.mk hcall
    obtain ⟨x0, x1⟩ := dot_cells HDC.out
    have HE0 := Aside0.mk he
    clear hcall he
    rw [HE0.out]
    go_wp2_with fail
    clear x0 x1
    refine HCALL.out.mono ?_
    rintro e U1 ⟨v1, rfl, hr1, hb⟩
    have HB := Aside0.mk (below_more HB.out hb)
    obtain ⟨A1, c1, rfl⟩ := Kd.R_slice hr1
    have HM1 := Aside0.mk (Kd.R_reads' hr1).2
    clear hb HCALL hr1
    by_cases he1 : e1 = 0
    rotate_left
    ·
     have hne : (e1 == 0) = false := beq_eq_false_iff_ne.2 he1
     have HNE := Aside0.mk he1
     clear he1
     go_wp2
     go_ret2
     have h := HRES.out
     unfold replR at h
     rw [HERR.out, if_neg (by rw [HE0.out]; simp), He1.out, if_pos HNE.out] at h
     cases h
     exact ⟨_, rfl, Kd.R_nil _ _ _ _ _, HB.out⟩
    subst he1
    have hmo : mo.length ≤ 10000 := by
     rw [← Hmo.out]
     unfold chainR
     split
     ·
      simp
     ·
      unfold chainE; rw [List.length_map, List.length_range]; exact HZ.out.2.2.2.2.1
    obtain ⟨m1, Hm1⟩ : ∃ q, Aside0 (mo.length = q) := ⟨_, ⟨rfl⟩⟩
    have HMO := Aside0.mk hmo
    rw [Hm1.out] at HM1 ⊢
    obtain ⟨go, Hgo⟩ : ∃ q, Aside0 ((delE l0 a2 a3).1 = q) := ⟨_, ⟨rfl⟩⟩
    have HDEL : Aside0 (delE l0 a2 a3 = (go, 0)) := ⟨by rw [← Hgo.out, del_some HZ.out.2.2.1 (by have := HZ.out.2.2.2.1; omega)]⟩
    have HGL : Aside0 (go.length ≤ 300000) := ⟨by
     rw [← Hgo.out, del_some HZ.out.2.2.1 (by have := HZ.out.2.2.2.1; omega), List.length_map]
     exact Nat.le_trans (List.length_filter_le _ _) HL.out.1⟩
    have hcall := edit_Delete.calls A0 c0 l0 a2 a3 go 0 U1 (Kd.C_below HR.out HB.out) HC.out (by unfold edit_Delete.f; rw [if_pos (by have := HL.out; omega), HDEL.out])
    rw [Hn.out] at hcall
    have HCALL := Aside0.mk hcall
    clear hcall hmo
    go_wp2_with fail
    refine HCALL.out.mono ?_
    rintro e U2 ⟨v2, rfl, hr2, hb⟩
    have HB := Aside0.mk (below_more HB.out hb)
    have HM1 := Aside0.mk (show m1 ≤ c1 ∧ Kd.C k53 U2 A1 m1 mo from ⟨HM1.out.1, Kd.C_below HM1.out.2 hb⟩)
    obtain ⟨A2, c2, rfl⟩ := Kd.R_slice hr2
    have HM2 := Aside0.mk (Kd.R_reads' hr2).2
    obtain ⟨m2, Hm2⟩ : ∃ q, Aside0 (go.length = q) := ⟨_, ⟨rfl⟩⟩
    rw [Hm2.out] at HM2 ⊢
    have HJR : Aside0 (joinR go mo = (r1, r2)) := ⟨by
     have h := HRES.out
     unfold replR at h
     rwa [HERR.out, if_neg (by rw [HE0.out]; simp), He1.out, if_neg (by simp), Hgo.out, Hmo.out] at h⟩
    have hcall := join_Join.calls A2 c2 go A1 c1 mo r1 r2 U2 (by rw [Hm2.out]; exact HM2.out.2) (by rw [Hm2.out]; exact HM2.out.1) (by rw [Hm1.out]; exact HM1.out.2) (by rw [Hm1.out]; exact HM1.out.1) (by unfold join_Join.f; rw [if_pos (by have := HGL.out; have := HMO.out; omega), HJR.out])
    rw [Hm1.out, Hm2.out] at hcall
    have HCALL := Aside0.mk hcall
    clear hcall hb hr2
    go_wp2_with fail
    refine HCALL.out.mono ?_
    rintro e U3 ⟨v3, rfl, hr3, hb⟩
    have HR3 := Aside0.mk hr3
    have HB3 := Aside0.mk (below_more HB.out hb)
    clear hb HCALL hr3
    go_wp2
    go_ret2
    exact ⟨_, rfl, Kd.R_lower HR3.out HB.out.size, HB3.out⟩
   ·
    go_wp2_with fail
    generalize V6 = V7 at *
    refine (edit_when.calls true 14 w5 V7 (by rw [ewhen_is]; exact congrArg some Hw5.out)).mono ?_
    rintro e V8 ⟨rfl, hd⟩
    have HDC := Aside0.mk (blk_keep HDC.out (Gr.drawn hd).below)
    have HB := Aside0.mk (below_more HB.out (Gr.drawn hd).below)
    clear hd
    go_wp2_with fail
    refine (edit_first.calls 6 _ 5 [w1, sp, w3, w4, w5] er _ (intRow_C [w1, sp, w3, w4, w5] _ rfl (blk_new _ _) (by simp)) (Nat.le_refl _) (by rw [efirst_is _ (by simp) (by show 5 < 6; omega), Her.out])).mono ?_
    rintro e V9 ⟨rfl, hd⟩
    have hbb := below_more (below_alloc (Below.refl V8.heap.size V8) _) (Gr.drawn hd).below
    have HDC := Aside0.mk (blk_keep HDC.out hbb)
    have HB := Aside0.mk (below_more HB.out hbb)
    clear hd hbb
    have he : er ≠ 0 := fun h => by
     have hz := firstE_zero (Her.out.trans h)
     have := Hw5.out
     rw [hz.2.2.2.2] at this
     exact absurd (ite_zero (by decide) this) (by simp)
    have hne : (er == 0) = false := beq_eq_false_iff_ne.2 he
    have HNE := Aside0.mk he
    clear he
    go_wp2
    go_ret2
    have h := HRES.out
    unfold replR at h
    rw [HERR.out, if_pos HNE.out] at h
    cases h
    exact ⟨_, rfl, Kd.R_nil _ _ _ _ _, HB.out⟩
  ·
   go_wp2_with fail
   refine (edit_when.calls true 5 w3 V4 (by rw [ewhen_is]; exact congrArg some Hw3.out)).mono ?_
   rintro e V5 ⟨rfl, hd⟩
   have HDC := Aside0.mk (blk_keep HDC.out (Gr.drawn hd).below)
   have HB := Aside0.mk (below_more HB.out (Gr.drawn hd).below)
   clear hd
   go_wp2_with fail
   refine (edit_when.calls odd 13 w4 V5 (by rw [ewhen_is]; exact congrArg some Hw4.out)).mono ?_
   rintro e V6 ⟨rfl, hd⟩
   have HDC := Aside0.mk (blk_keep HDC.out (Gr.drawn hd).below)
   have HB := Aside0.mk (below_more HB.out (Gr.drawn hd).below)
   clear hd
   cases cnt
   ·
    go_wp2_with fail
    refine (HLATE.out V6 HB.out).mono ?_
    rintro e V7 ⟨rfl, hb⟩
    have HDC := Aside0.mk (blk_keep HDC.out hb)
    have HB := Aside0.mk (below_more HB.out hb)
    clear hb
    have hb1 : decide (late > wrap64 (4611686018427387904 - (m : Int))) = decide (wrap64 (4611686018427387904 - (m : Int)) < late) := rfl
    go_wp2_with fail
    clear hb1
    refine (edit_when.calls (decide (late > wrap64 (4611686018427387904 - (m : Int)))) 14 w5 V7 (by rw [ewhen_is]; exact congrArg some Hw5.out)).mono ?_
    rintro e V8 ⟨rfl, hd⟩
    have HDC := Aside0.mk (blk_keep HDC.out (Gr.drawn hd).below)
    have HB := Aside0.mk (below_more HB.out (Gr.drawn hd).below)
    clear hd
    go_wp2_with fail
    refine (edit_first.calls 6 _ 5 [w1, sp, w3, w4, w5] er _ (intRow_C [w1, sp, w3, w4, w5] _ rfl (blk_new _ _) (by simp)) (Nat.le_refl _) (by rw [efirst_is _ (by simp) (by show 5 < 6; omega), Her.out])).mono ?_
    rintro e V9 ⟨rfl, hd⟩
    have hbb := below_more (below_alloc (Below.refl V8.heap.size V8) _) (Gr.drawn hd).below
    have HDC := Aside0.mk (blk_keep HDC.out hbb)
    have HB := Aside0.mk (below_more HB.out hbb)
    clear hd hbb
    have he : er ≠ 0 := fun h => by
     have hz := firstE_zero (Her.out.trans h)
     have := Hw3.out
     rw [hz.2.2.1] at this
     exact absurd (ite_zero (by decide) this) (by simp)
    have hne : (er == 0) = false := beq_eq_false_iff_ne.2 he
    have HNE := Aside0.mk he
    clear he
    go_wp2
    go_ret2
    have h := HRES.out
    unfold replR at h
    rw [HERR.out, if_pos HNE.out] at h
    cases h
    exact ⟨_, rfl, Kd.R_nil _ _ _ _ _, HB.out⟩
   ·
    go_wp2_with fail
    generalize V6 = V7 at *
    refine (edit_when.calls true 14 w5 V7 (by rw [ewhen_is]; exact congrArg some Hw5.out)).mono ?_
    rintro e V8 ⟨rfl, hd⟩
    have HDC := Aside0.mk (blk_keep HDC.out (Gr.drawn hd).below)
    have HB := Aside0.mk (below_more HB.out (Gr.drawn hd).below)
    clear hd
    go_wp2_with fail
    refine (edit_first.calls 6 _ 5 [w1, sp, w3, w4, w5] er _ (intRow_C [w1, sp, w3, w4, w5] _ rfl (blk_new _ _) (by simp)) (Nat.le_refl _) (by rw [efirst_is _ (by simp) (by show 5 < 6; omega), Her.out])).mono ?_
    rintro e V9 ⟨rfl, hd⟩
    have hbb := below_more (below_alloc (Below.refl V8.heap.size V8) _) (Gr.drawn hd).below
    have HDC := Aside0.mk (blk_keep HDC.out hbb)
    have HB := Aside0.mk (below_more HB.out hbb)
    clear hd hbb
    have he : er ≠ 0 := fun h => by
     have hz := firstE_zero (Her.out.trans h)
     have := Hw3.out
     rw [hz.2.2.1] at this
     exact absurd (ite_zero (by decide) this) (by simp)
    have hne : (er == 0) = false := beq_eq_false_iff_ne.2 he
    have HNE := Aside0.mk he
    clear he
    go_wp2
    go_ret2
    have h := HRES.out
    unfold replR at h
    rw [HERR.out, if_pos HNE.out] at h
    cases h
    exact ⟨_, rfl, Kd.R_nil _ _ _ _ _, HB.out⟩
end Go.Proofs.YtmbndijbpgobeaaGreat.PWalk
end
