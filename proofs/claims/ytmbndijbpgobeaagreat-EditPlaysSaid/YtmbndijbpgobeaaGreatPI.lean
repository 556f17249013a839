/-
  The law EditPlays of layer 15 holds for all lists of edits. Part 9 of 12.
-/
import Derived.Test.YtmbndijbpgobeaaGreatPH
import Derived.Laws.Tables
import Derived.Deep.Cut
section
namespace Go.Proofs.YtmbndijbpgobeaaGreat.PWalk
open Go.RowKit Go.Proofs.YtmbndijbpgobeaaGreatW.PrintWords Go.Proofs.YtmbndijbpgobeaaGreatW.PrintLast Go.Proofs.YtmbndijbpgobeaaGreatW.PrintMore
set_option linter.unusedVariables false
set_option linter.unusedSimpArgs false
open Go.Shelf
attribute [local go_sem] Oper.semAt_some
section
/-- The join of two states: none where they don't agree. -/
def joinN : Nat → List Node → List Node → Option (List Node)
 | 0, l, m => some (l ++ m)
 | k + 1, l, m => match l, m with
  | [], m => some m
  | x :: l, [] => some (x :: l)
  | x :: l, y :: m => if dotLt x.f0 y.f0 = true then (joinN k l (y :: m)).map (x :: ·) else if dotLt y.f0 x.f0 = true then (joinN k (x :: l) m).map (y :: ·) else (mergeN x y).bind fun z => (joinN k l m).map (z :: ·)
def joinOf (l m : List Node) : Option (List Node) := joinN (l.length + m.length) l m
def joinR (l m : List Node) : List Node × Int := if zak l = true ∧ zak m = true then (match joinOf l m with | some r => (r, 0) | none => ([], 15)) else ([], 2)
def join_Join.f (l0 l1 : List Node) : Option (List Node × Int) := if l0.length + l1.length ≤ 400000 then some (joinR l0 l1) else none
theorem joinN_cons (k : Nat) (x y : Node) (l m : List Node) : joinN (k + 1) (x :: l) (y :: m) = if dotLt x.f0 y.f0 = true then (joinN k l (y :: m)).map (x :: ·) else if dotLt y.f0 x.f0 = true then (joinN k (x :: l) m).map (y :: ·) else (mergeN x y).bind fun z => (joinN k l m).map (z :: ·) := rfl
theorem joinN_nil (k : Nat) (m : List Node) : joinN k [] m = some m := by cases k <;> rfl
theorem joinN_nil2 (k : Nat) (l : List Node) : joinN k l [] = some l := by
 cases k with
 | zero => simp [joinN]
 | succ k => cases l <;> rfl
theorem joinN_fuel : ∀ (k : Nat) (l m : List Node) (q : Nat), l.length + m.length ≤ k → l.length + m.length ≤ q → joinN k l m = joinN q l m
 | k, [], m, q, _, _ => by rw [joinN_nil, joinN_nil]
 | k, x :: l, [], q, _, _ => by rw [joinN_nil2, joinN_nil2]
 | 0, x :: l, y :: m, q, h, _ => by simp at h
 | k + 1, x :: l, y :: m, 0, _, h => by simp at h
 | k + 1, x :: l, y :: m, q + 1, h, h2 => by
  simp only [List.length_cons] at h h2
  rw [joinN_cons, joinN_cons, joinN_fuel k l (y :: m) q (by simp only [List.length_cons]; omega) (by simp only [List.length_cons]; omega), joinN_fuel k (x :: l) m q (by simp only [List.length_cons]; omega) (by simp only [List.length_cons]; omega), joinN_fuel k l m q (by omega) (by omega)]
theorem joinOf_nil (m : List Node) : joinOf [] m = some m := joinN_nil _ _
theorem joinOf_nil2 (l : List Node) : joinOf l [] = some l := joinN_nil2 _ _
theorem joinOf_cons (x y : Node) (l m : List Node) : joinOf (x :: l) (y :: m) = if dotLt x.f0 y.f0 = true then (joinOf l (y :: m)).map (x :: ·) else if dotLt y.f0 x.f0 = true then (joinOf (x :: l) m).map (y :: ·) else (mergeN x y).bind fun z => (joinOf l m).map (z :: ·) := by
 unfold joinOf
 have h : (x :: l).length + (y :: m).length = (l.length + m.length + 1) + 1 := by simp only [List.length_cons]; omega
 rw [h, joinN_cons, joinN_fuel (l.length + m.length + 1) l (y :: m) (l.length + (y :: m).length) (by simp only [List.length_cons]; omega) (Nat.le_refl _), joinN_fuel (l.length + m.length + 1) (x :: l) m ((x :: l).length + m.length) (by simp only [List.length_cons]; omega) (Nat.le_refl _), joinN_fuel (l.length + m.length + 1) l m (l.length + m.length) (by omega) (Nat.le_refl _)]
theorem addr_zero (a : Addr) : a.add (0 * 6) = a := by
 cases a
 simp [Addr.add]
theorem node_first {w wr : World} {a : Addr} {n : Nat} {x : Node} {xs : List Node} (h : Kd.C k53 w (some a) n (x :: xs)) (hb : Below w.heap.size w wr) :
  wr.cell? a = some (.int .i64 x.f0.f0) ∧ wr.cell? ⟨a.block, a.off + 1, none⟩ = some (.int .i64 x.f0.f1) ∧ wr.cell? ⟨a.block, a.off + 2, none⟩ = some (.int .i64 x.f1.f0) ∧ wr.cell? ⟨a.block, a.off + 3, none⟩ = some (.int .i64 x.f1.f1) ∧ wr.cell? ⟨a.block, a.off + 4, none⟩ = some (.int .i64 x.f2) ∧ wr.cell? ⟨a.block, a.off + 5, none⟩ = some (.int .i32 x.f3) := by
 obtain ⟨ad, e, h⟩ := node_at h hb 0 x rfl
 cases e
 rwa [addr_zero] at h
theorem op_boxNode {o : Oper} {a : Act} {K : Act → World → Prop} {Q : Exit → Act → World → Prop} (s x : Operand) (ho : o.op = .store 53 s x) (hd : o.dst = none) {w : World} {g : Nat} {c0 c1 c2 c3 c4 c5 : Value}
  (hg : w.heap[g]? = some (.cells #[c0, c1, c2, c3, c4, c5] 53 (0, 0))) (y : Node) (hs : a.eval s = .pointer (some ⟨g, 0, none⟩)) (hx : a.eval x = vNode y)
  (hk : ∀ w', w'.heap[g]? = some (boxN y) → w.grownBy w' (some g) → K a w') : o.wp Tryz.prog a w K Q := by
 obtain ⟨i0, hi0, hz0, hz1, hz2⟩ := info_parts infoN
 refine wp_store_row 53 s x ho g _ hs hx 53 _ hg (by rw [hi0]; show some i0.size = some 6; rw [hz1]) rfl (Array.all_eq_true_iff_forall_mem.2 (by intro v hv; simp at hv; rcases hv with rfl | rfl | rfl | rfl | rfl | rfl <;> rfl)) ?_
 rw [hd]
 exact hk _ (setRow_at hg _) (setRow_grown w g _)
/-- What has come up where one node is put to the end of the own row. -/
structure JA (w : World) (out : List Node) (x : Node) (vo : Value) (lm lp lq lb la l8 l9 lr l10 ll : Bool) (Z : World → Prop) (g : Nat) (v2 : Value) (V : World) : Prop where
 ord5 : la = true → lb = true
 ord8 : l8 = true → la = true ∧ lm = true
 ord9 : l9 = true → lp = true ∧ lq = true
 ord10 : l10 = true → lr = true
 below : Below w.heap.size w V
 r1 : la = false → RN V w.heap.size vo out
 bx : lb = true → la = false → V.heap[g]? = some (boxN x)
 r2 : la = true → RN V w.heap.size v2 (out ++ [x])
 kz : la = false → Z V
 ordB : lb = true → ll = true
/-- What has come up where two nodes are merged. -/
structure JM (w : World) (out : List Node) (vo : Value) (z : Node) (l10 l11 : Bool) (g : Nat) (V : World) : Prop where
 ord : l11 = true → l10 = true
 below : Below w.heap.size w V
 r1 : RN V w.heap.size vo out
 bz : l10 = true → l11 = false → V.heap[g]? = some boxZ
 bx : l11 = true → V.heap[g]? = some (boxN z)
 ge : l10 = true → w.heap.size ≤ g ∧ ∀ q, vo.ownBlock = some q → q ≠ g
theorem cmp_lt {a b : Dot} (h : dotLt a b = true) : zas a b = -1 := by unfold zas; rw [if_pos h]
theorem cmp_gt {a b : Dot} (h : dotLt a b = false) (k : dotLt b a = true) : zas a b = 1 := by unfold zas; rw [if_neg (by rw [h]; decide), if_pos k]
theorem cmp_eq {a b : Dot} (h : dotLt a b = false) (k : dotLt b a = false) : zas a b = 0 := by unfold zas; rw [if_neg (by rw [h]; decide), if_neg (by rw [k]; decide)]
def lenV : Value → Nat
 | .slice _ n _ => n
 | _ => 0
def jn5Inv (W0 : World) (ada adb : Addr) (Ao : Option Addr) (na ca nb cb no co : Nat) (x y : Node) (z2 z3 z4 z5 z7 z8 z9 z10 z11 z12 z13 z14 z15 z16 z17 z18 z19 z20 z21 z22 z23 z24 z25 z26 z27 z28 z29 z30 z31 z32 z33 z34 z35 z36 z37 z38 z39 z40 z41 z42 z43 z44 z45 z46 z47 z48 z49 z50 z51 z52 z53 z54 z55 z56 z57 z58 z59 z60 z61 z62 z63 z64 z65 z66 z67 z68 z69 z70 z71 z72 z73 z74 z75 z76 z77 z78 z79 : Value) (L : Array Bool) (ac : Act) (V : World) : Prop := ∃ (l0 l1 l2 l3 l4 l5 l6 l7 l8 : Bool), L = #[l0, l1, l2, l3, l4, l5, l6, l7, l8] ∧ ac = { tmps := #[.slice (some ada) na ca, .slice (some adb) nb cb, z2, z3, z4, z5, .slice Ao no co, z7, z8, z9, z10, z11, z12, z13, z14, z15, z16, z17, z18, z19, z20, z21, z22, z23, z24, selv l0 (.slice (some ada) na ca) (z25), selv l1 (.pointer (some (ada.add 0))) (z26), selv l2 (.pointer (some (ada.add 0))) (z27), selv l3 (vDot x.f0) (z28), selv l4 (.slice (some adb) nb cb) (z29), selv l5 (.pointer (some (adb.add 0))) (z30), selv l6 (.pointer (some (adb.add 0))) (z31), selv l7 (vDot y.f0) (z32), selv l8 (.int .i64 (zas x.f0 y.f0)) (z33), z34, z35, z36, z37, z38, z39, z40, z41, z42, z43, z44, z45, z46, z47, z48, z49, z50, z51, z52, z53, z54, z55, z56, z57, z58, z59, z60, z61, z62, z63, z64, z65, z66, z67, z68, z69, z70, z71, z72, z73, z74, z75, z76, z77, z78, z79], defers := [] } ∧ za0 (Below W0.heap.size W0 V)
def jn11Inv (W0 : World) (ada adb : Addr) (Ao A' : Option Addr) (na ca nb cb no co n' c' : Nat) (x y : Node) (out : List Node) (z2 z3 z4 z5 z7 z8 z9 z10 z11 z12 z13 z14 z15 z16 z17 z18 z19 z20 z21 z22 z23 z24 z25 z26 z27 z28 z29 z30 z31 z32 z33 z34 z35 z36 z37 z38 z39 z40 z41 z42 z43 z44 z45 z46 z47 z48 z49 z50 z51 z52 z53 z54 z55 z56 z57 z58 z59 z60 z61 z62 z63 z64 z65 z66 z67 z68 z69 z70 z71 z72 z73 z74 z75 z76 z77 z78 z79 : Value) (L : Array Bool) (ac : Act) (V : World) : Prop := ∃ (l0 l1 l2 l3 l4 l5 l6 l7 l8 l9 : Bool) (g : Nat) (v2 : Value), L = #[l0, l1, l2, l3, l4, l5, l6, l7, l8, l9] ∧ ac = { tmps := #[selv l9 (.slice A' n' c') (.slice (some ada) na ca), .slice (some adb) nb cb, z2, z3, z4, z5, selv l8 (v2) (.slice Ao no co), z7, z8, z9, z10, z11, z12, z13, z14, z15, z16, z17, z18, z19, z20, z21, z22, z23, z24, z25, z26, z27, z28, z29, z30, z31, z32, z33, z34, z35, z36, z37, z38, z39, z40, z41, z42, z43, z44, z45, z46, z47, z48, z49, z50, z51, z52, z53, z54, z55, z56, selv l0 (.slice Ao no co) (z57), selv l1 (.slice (some ada) na ca) (z58), selv l2 (.pointer (some (ada.add 0))) (z59), selv l3 (vNode x) (z60), selv l4 (.slice (some ⟨g, 0, none⟩) 1 1) (z61), selv l5 (v2) (z62), selv l6 (.slice (some ada) na ca) (z63), selv l7 (.slice A' n' c') (z64), z65, z66, z67, z68, z69, z70, z71, z72, z73, z74, z75, z76, z77, z78, z79], defers := [] } ∧ za0 (JA W0 out x (.slice Ao no co) l0 l1 l6 l4 l5 l8 l9 false false true (fun _ => True) g v2 V)
def jn13Inv (W0 : World) (ada adb : Addr) (Ao A' : Option Addr) (na ca nb cb no co n' c' : Nat) (x y : Node) (out : List Node) (z2 z3 z4 z5 z7 z8 z9 z10 z11 z12 z13 z14 z15 z16 z17 z18 z19 z20 z21 z22 z23 z24 z25 z26 z27 z28 z29 z30 z31 z32 z33 z34 z35 z36 z37 z38 z39 z40 z41 z42 z43 z44 z45 z46 z47 z48 z49 z50 z51 z52 z53 z54 z55 z56 z57 z58 z59 z60 z61 z62 z63 z64 z65 z66 z67 z68 z69 z70 z71 z72 z73 z74 z75 z76 z77 z78 z79 : Value) (L : Array Bool) (ac : Act) (V : World) : Prop := ∃ (l0 l1 l2 l3 l4 l5 l6 l7 l8 l9 : Bool) (g : Nat) (v2 : Value), L = #[l0, l1, l2, l3, l4, l5, l6, l7, l8, l9] ∧ ac = { tmps := #[.slice (some ada) na ca, selv l9 (.slice A' n' c') (.slice (some adb) nb cb), z2, z3, z4, z5, selv l8 (v2) (.slice Ao no co), z7, z8, z9, z10, z11, z12, z13, z14, z15, z16, z17, z18, z19, z20, z21, z22, z23, z24, z25, z26, z27, z28, z29, z30, z31, z32, z33, z34, z35, z36, z37, z38, z39, z40, z41, z42, z43, z44, z45, z46, z47, z48, z49, z50, z51, z52, z53, z54, z55, z56, z57, z58, z59, z60, z61, z62, z63, z64, z65, z66, selv l0 (.slice Ao no co) (z67), selv l1 (.slice (some adb) nb cb) (z68), selv l2 (.pointer (some (adb.add 0))) (z69), selv l3 (vNode y) (z70), selv l4 (.slice (some ⟨g, 0, none⟩) 1 1) (z71), selv l5 (v2) (z72), selv l6 (.slice (some adb) nb cb) (z73), selv l7 (.slice A' n' c') (z74), z75, z76, z77, z78, z79], defers := [] } ∧ za0 (JA W0 out y (.slice Ao no co) l0 l1 l6 l4 l5 l8 l9 false false true (fun _ => True) g v2 V)
def jn6Inv (W0 : World) (ada adb : Addr) (Ao : Option Addr) (na ca nb cb no co : Nat) (x y z : Node) (er : Int) (out : List Node) (z2 z3 z4 z5 z7 z8 z9 z10 z11 z12 z13 z14 z15 z16 z17 z18 z19 z20 z21 z22 z23 z24 z25 z26 z27 z28 z29 z30 z31 z32 z33 z34 z35 z36 z37 z38 z39 z40 z41 z42 z43 z44 z45 z46 z47 z48 z49 z50 z51 z52 z53 z54 z55 z56 z57 z58 z59 z60 z61 z62 z63 z64 z65 z66 z67 z68 z69 z70 z71 z72 z73 z74 z75 z76 z77 z78 z79 : Value) (L : Array Bool) (ac : Act) (V : World) : Prop := ∃ (l0 l1 l2 l3 l4 l5 l6 l7 l8 l9 l10 l11 l12 : Bool) (g : Nat), L = #[l0, l1, l2, l3, l4, l5, l6, l7, l8, l9, l10, l11, l12] ∧ ac = { tmps := #[.slice (some ada) na ca, .slice (some adb) nb cb, z2, z3, z4, z5, .slice Ao no co, selv l10 (.pointer (some ⟨g, 0, none⟩)) (z7), selv l12 (.int .i64 er) (z8), z9, z10, z11, z12, z13, z14, z15, z16, z17, z18, z19, z20, z21, z22, z23, z24, z25, z26, z27, z28, z29, z30, z31, z32, z33, selv l7 (.tuple #[vNode z, .int .i64 er]) (z34), selv l0 (.slice (some ada) na ca) (z35), selv l1 (.pointer (some (ada.add 0))) (z36), selv l2 (vNode x) (z37), selv l3 (.slice (some adb) nb cb) (z38), selv l4 (.pointer (some (adb.add 0))) (z39), selv l5 (vNode y) (z40), selv l6 (.tuple #[vNode z, .int .i64 er]) (z41), selv l8 (vNode z) (z42), selv l9 (.int .i64 er) (z43), z44, z45, z46, z47, z48, z49, z50, z51, z52, z53, z54, z55, z56, z57, z58, z59, z60, z61, z62, z63, z64, z65, z66, z67, z68, z69, z70, z71, z72, z73, z74, z75, z76, z77, z78, z79], defers := [] } ∧ za0 (JM W0 out (.slice Ao no co) z l10 l11 g V)
def jn9Inv (W0 : World) (ada adb : Addr) (Ao A' B' : Option Addr) (na ca nb cb no co n' c' m' d' gz : Nat) (x y z : Node) (out : List Node) (z2 z3 z4 z5 z8 z9 z10 z11 z12 z13 z14 z15 z16 z17 z18 z19 z20 z21 z22 z23 z24 z25 z26 z27 z28 z29 z30 z31 z32 z33 z34 z35 z36 z37 z38 z39 z40 z41 z42 z43 z44 z45 z46 z47 z48 z49 z50 z51 z52 z53 z54 z55 z56 z57 z58 z59 z60 z61 z62 z63 z64 z65 z66 z67 z68 z69 z70 z71 z72 z73 z74 z75 z76 z77 z78 z79 : Value) (L : Array Bool) (ac : Act) (V : World) : Prop := ∃ (l0 l1 l2 l3 l4 l5 l6 l7 l8 l9 l10 : Bool) (g : Nat) (v2 : Value), L = #[l0, l1, l2, l3, l4, l5, l6, l7, l8, l9, l10] ∧ ac = { tmps := #[selv l9 (.slice A' n' c') (.slice (some ada) na ca), selv l10 (.slice B' m' d') (.slice (some adb) nb cb), z2, z3, z4, z5, selv l8 (v2) (.slice Ao no co), .pointer (some ⟨gz, 0, none⟩), z8, z9, z10, z11, z12, z13, z14, z15, z16, z17, z18, z19, z20, z21, z22, z23, z24, z25, z26, z27, z28, z29, z30, z31, z32, z33, z34, z35, z36, z37, z38, z39, z40, z41, z42, z43, z44, z45, z46, selv l0 (.slice Ao no co) (z47), selv l1 (vNode z) (z48), selv l2 (.slice (some ⟨g, 0, none⟩) 1 1) (z49), selv l3 (v2) (z50), selv l4 (.slice (some ada) na ca) (z51), selv l5 (.slice A' n' c') (z52), selv l6 (.slice (some adb) nb cb) (z53), selv l7 (.slice B' m' d') (z54), z55, z56, z57, z58, z59, z60, z61, z62, z63, z64, z65, z66, z67, z68, z69, z70, z71, z72, z73, z74, z75, z76, z77, z78, z79], defers := [] } ∧ za0 (JA W0 out z (.slice Ao no co) l0 l4 l4 l2 l3 l8 l9 l6 l10 l1 (fun V => V.heap[gz]? = some (boxN z)) g v2 V)
set_option maxHeartbeats 4000000 in
set_option maxRecDepth 100000 in
theorem join_Join.calls (A0 : Option Addr) (c0 : Nat) (l0 : List Node) (A1 : Option Addr) (c1 : Nat) (l1 : List Node) (r1 : List Node) (r2 : Int) (w : World) (hr0 : Kd.C k53 w A0 l0.length l0) (hc0 : l0.length ≤ c0) (hr1 : Kd.C k53 w A1 l1.length l1) (hc1 : l1.length ≤ c1) (h : join_Join.f l0 l1 = some (r1, r2)) :
  Calls Tryz.prog 54 #[.slice A0 l0.length c0, .slice A1 l1.length c1] w fun e w' => ∃ v0_ : Value, e = .returned (.tuple #[v0_, .int .i64 r2]) ∧ Kd.R k53 53 w' w.heap.size (fun _ => True) v0_ r1 ∧ Below w.heap.size w w' := by
 unfold join_Join.f at h
 by_cases hl : l0.length + l1.length ≤ 400000
 rotate_left
 ·
  rw [if_neg hl] at h; cases h
 rw [if_pos hl] at h
 have HRES := za0.mk (Option.some.inj h)
 have HL := za0.mk hl
 have HR0 := za0.mk hr0
 have HR1 := za0.mk hr1
 have HC0 := za0.mk hc0
 have HC1 := za0.mk hc1
 have HB : za0 (Below w.heap.size w w) := ⟨Below.refl _ _⟩
 obtain ⟨b0, Hb0⟩ : ∃ b, za0 (zak l0 = b) := ⟨_, ⟨rfl⟩⟩
 obtain ⟨b1, Hb1⟩ : ∃ b, za0 (zak l1 = b) := ⟨_, ⟨rfl⟩⟩
 have HV0 := za0.mk (join_Valid.calls A0 c0 l0 b0 w hr0 hc0 (by unfold join_Valid.f store_Valid.f; rw [if_pos (by omega), Hb0.out]; rfl))
 have HV1 := za0.mk (fun W hb => join_Valid.calls A1 c1 l1 b1 W (Kd.C_below hr1 hb) hc1 (by unfold join_Valid.f store_Valid.f; rw [if_pos (by omega), Hb1.out]; rfl))
 have hu := Tryz.underlying53
 have hu2 := Tryz.underlying25
 obtain ⟨n0, Hn0⟩ : ∃ n, za0 (l0.length = n) := ⟨_, ⟨rfl⟩⟩
 obtain ⟨n1, Hn1⟩ : ∃ n, za0 (l1.length = n) := ⟨_, ⟨rfl⟩⟩
 rw [Hn0.out, Hn1.out]
 rw [Hn0.out] at HV0
 rw [Hn1.out] at HV1
 clear h hl hr0 hr1 hc0 hc1
 go_enter Tryz.func54, Tryz.ntmps54
 go_wp2_with fail
 refine HV0.out.mono ?_
 rintro e V0 ⟨rfl, hb⟩
 have HB := za0.mk (za5 HB.out hb)
 clear hb HV0
 cases b0
 ·
  clear HV1
  go_wp2
  go_ret2
  have h := HRES.out
  unfold joinR at h
  rw [if_neg (fun h => by have := h.1; rw [Hb0.out] at this; cases this)] at h
  cases h
  exact ⟨_, rfl, Kd.R_nil _ _ _ _ _, HB.out⟩
 go_wp2_with fail
 refine (HV1.out V0 HB.out).mono ?_
 rintro e V1 ⟨rfl, hb⟩
 have HB := za0.mk (za5 HB.out hb)
 clear hb HV1
 cases b1
 ·
  go_wp2
  go_ret2
  have h := HRES.out
  unfold joinR at h
  rw [if_neg (fun h => by have := h.2; rw [Hb1.out] at this; cases this)] at h
  cases h
  exact ⟨_, rfl, Kd.R_nil _ _ _ _ _, HB.out⟩
 have HRJ : za0 ((match joinOf l0 l1 with | some r => (r, (0 : Int)) | none => ([], 15)) = (r1, r2)) := ⟨by have := HRES.out; unfold joinR at this; rwa [if_pos ⟨Hb0.out, Hb1.out⟩] at this⟩
 have HOK : za0 ((∀ x ∈ l0, nodeOk x = true) ∧ ∀ x ∈ l1, nodeOk x = true) := ⟨by
  have h0 := Hb0.out
  have h1 := Hb1.out
  unfold zak at h0 h1
  rw [Bool.and_eq_true, List.all_eq_true] at h0 h1
  exact ⟨h0.1, h1.1⟩⟩
 clear HRES Hb0 Hb1
 go_wp2_with fail
 go_loopw [0, 1, 6] (fun a b s wr => ∃ (la lb out : List Node) (Aa Ab Ao : Option Addr) (na nb no ca cb co : Nat), a = .slice Aa na ca ∧ b = .slice Ab nb cb ∧ s = .slice Ao no co ∧ za0 (la.length = na ∧ lb.length = nb ∧ na ≤ ca ∧ nb ≤ cb ∧ na + nb + no ≤ 400000) ∧ za0 (Kd.C k53 w Aa na la) ∧ za0 (Kd.C k53 w Ab nb lb) ∧ za0 (RN wr w.heap.size (.slice Ao no co) out) ∧ za0 ((∀ x ∈ la, nodeOk x = true) ∧ ∀ x ∈ lb, nodeOk x = true) ∧ za0 ((joinOf la lb).map (out ++ ·) = joinOf l0 l1) ∧ za0 (Below w.heap.size w wr)) (fun a b _ _ => lenV a + lenV b)
 case atStart => exact ⟨l0, l1, [], _, _, none, n0, n1, 0, c0, c1, 0, rfl, rfl, rfl, ⟨Hn0.out, Hn1.out, by rw [← Hn0.out]; exact HC0.out, by rw [← Hn1.out]; exact HC1.out, by rw [← Hn0.out, ← Hn1.out]; exact HL.out⟩, ⟨by rw [← Hn0.out]; exact HR0.out⟩, ⟨by rw [← Hn1.out]; exact HR1.out⟩, ⟨Kd.R_nil _ _ _ _ _⟩, HOK, ⟨by simp⟩, HB⟩
 case round =>
  obtain ⟨la, lb, out, Aa, Ab, Ao, na, nb, no, ca, cb, co, rfl, rfl, rfl, HN, HCA, HCB, HO, HOK, HJ, HB⟩ := hrel
  clear Hn0 Hn1 HL HR0 HR1 HC0 HC1
  have HNO : za0 (out.length = no) := ⟨(RN.C HO.out).1⟩
  cases la with
  | nil =>
   obtain rfl : na = 0 := HN.out.1.symm
   have HFIN : za0 (joinOf l0 l1 = some (out ++ [] ++ lb)) := ⟨by rw [← HJ.out, joinOf_nil]; simp⟩
   go_wp2_with (first | (at_builtin; refine app_rows Tryz.underlying23 w.heap.size rfl (.tmp 75) (.tmp 76) rfl (.slice Ao no co) out [] Aa 0 ca rfl rfl HO.out (Kd.C_below HCA.out HB.out) HB.out.size (by have := HN.out; have := HNO.out; omega) ?_; intro v8 W8 hr8 hg8) | (at_builtin; refine app_rows Tryz.underlying23 w.heap.size rfl (.tmp 77) (.tmp 78) rfl v8 (out ++ []) lb Ab nb cb rfl rfl hr8 (Kd.C_below HCB.out (grown_below HB.out HO.out hg8)) (grown_below HB.out HO.out hg8).size (by have := HN.out; have := HNO.out; have h9 := HN.out.1; rw [List.length_append]; omega) ?_; intro v9 W9 hr9 hg9) | fail)
   go_ret2
   have hfin := HRJ.out
   rw [HFIN.out] at hfin
   cases hfin
   exact ⟨_, rfl, hr9, grown_below (grown_below HB.out HO.out hg8) hr8 hg9⟩
  | cons x la =>
   have HNA : za0 (0 < na) := ⟨by have := HN.out.1; simp only [List.length_cons] at this; omega⟩
   have hg1 : decide ((na : Int) > 0) = true := decide_eq_true (by have := HNA.out; omega)
   have hg2 : decide (0 < na) = true := decide_eq_true HNA.out
   cases lb with
   | nil =>
    obtain rfl : nb = 0 := HN.out.2.1.symm
    have HFIN : za0 (joinOf l0 l1 = some (out ++ (x :: la) ++ [])) := ⟨by rw [← HJ.out, joinOf_nil2]; simp⟩
    go_wp2_with (first | (at_builtin; refine app_rows Tryz.underlying23 w.heap.size rfl (.tmp 75) (.tmp 76) rfl (.slice Ao no co) out (x :: la) Aa na ca rfl rfl HO.out (Kd.C_below HCA.out HB.out) HB.out.size (by have := HN.out; have := HNO.out; omega) ?_; intro v8 W8 hr8 hg8) | (at_builtin; refine app_rows Tryz.underlying23 w.heap.size rfl (.tmp 77) (.tmp 78) rfl v8 (out ++ (x :: la)) [] Ab 0 cb rfl rfl hr8 (Kd.C_below HCB.out (grown_below HB.out HO.out hg8)) (grown_below HB.out HO.out hg8).size (by have := HN.out; have := HNO.out; have h9 := HN.out.1; rw [List.length_append]; omega) ?_; intro v9 W9 hr9 hg9) | fail)
    go_ret2
    have hfin := HRJ.out
    rw [HFIN.out] at hfin
    cases hfin
    exact ⟨_, rfl, hr9, grown_below (grown_below HB.out HO.out hg8) hr8 hg9⟩
   | cons y lb =>
    have HNB : za0 (0 < nb) := ⟨by have := HN.out.2.1; simp only [List.length_cons] at this; omega⟩
    have hg3 : decide ((nb : Int) > 0) = true := decide_eq_true (by have := HNB.out; omega)
    have hg4 : decide (0 < nb) = true := decide_eq_true HNB.out
    obtain ⟨ada, e, _⟩ := node_at HCA.out (Below.refl _ w) 0 x rfl
    subst e
    obtain ⟨adb, e, _⟩ := node_at HCB.out (Below.refl _ w) 0 y rfl
    subst e
    go_wp2_with fail
    clear hg1 hg2 hg3 hg4
    refine AnyOrder.wp_region (by kernel_rfl) (jn5Inv wr.drew ada adb Ao na ca nb cb no co x y _ _ _ _ _ _ _ _ _ _ _ _ _ _ _ _ _ _ _ _ _ _ _ _ _ _ _ _ _ _ _ _ _ _ _ _ _ _ _ _ _ _ _ _ _ _ _ _ _ _ _ _ _ _ _ _ _ _ _ _ _ _ _ _ _ _ _ _ _ _ _ _ _ _ _ _ _) ⟨false, false, false, false, false, false, false, false, false, rfl, rfl, ⟨Below.refl _ _⟩⟩ ?step ?last
    case step =>
     rintro L ac V i ⟨l0, l1, l2, l3, l4, l5, l6, l7, l8, rfl, rfl, HF⟩ hi K hK
     rcases AnyOrder.up hi [0, 4, 1, 2, 3, 5, 6, 7, 8] rfl with rfl | rfl | rfl | rfl | rfl | rfl | rfl | rfl | rfl
     all_goals
      replace hi := AnyOrder.first hi rfl
      repeat (obtain ⟨ha, hi⟩ := hi; first | obtain rfl := ha | clear ha)
      clear hi
      try simp only [sel_true, selv_true] at hK ⊢
     iterate 2
      ·
       refine AnyOrder.wpOp_go rfl (by rfl) ?_
       go_wp2_with fail
       exact ⟨_, _, _, _, _, _, _, _, _, rfl, rfl, HF⟩
     iterate 2
      ·
       have hna := HNA.out
       refine AnyOrder.wpOp_go rfl (by rfl) ?_
       go_wp2_with fail
       exact ⟨_, _, _, _, _, _, _, _, _, rfl, rfl, HF⟩
     ·
      obtain ⟨x0, x1, x2, x3, x4, x5⟩ := node_first HCA.out (za5 HB.out (za5 (za3 (Below.refl _ wr)) HF.out))
      refine AnyOrder.wpOp_go rfl (by rfl) ?_
      go_wp2_with fail
      exact ⟨_, _, _, _, _, _, _, _, _, rfl, rfl, HF⟩
     iterate 2
      ·
       have hnb := HNB.out
       refine AnyOrder.wpOp_go rfl (by rfl) ?_
       go_wp2_with fail
       exact ⟨_, _, _, _, _, _, _, _, _, rfl, rfl, HF⟩
     ·
      obtain ⟨y0, y1, y2, y3, y4, y5⟩ := node_first HCB.out (za5 HB.out (za5 (za3 (Below.refl _ wr)) HF.out))
      refine AnyOrder.wpOp_go rfl (by rfl) ?_
      go_wp2_with fail
      exact ⟨_, _, _, _, _, _, _, _, _, rfl, rfl, HF⟩
     ·
      refine AnyOrder.wpOp_go rfl (by rfl) ?_
      go_wp2_with fail
      refine (dot_Compare.calls 3 x.f0.f0 x.f0.f1 y.f0.f0 y.f0.f1 (zas x.f0 y.f0) V (dotCompare_is 0 x.f0 y.f0)).mono ?_
      rintro e V' ⟨rfl, hb⟩
      exact hK _ _ ⟨_, _, _, _, _, _, _, _, _, rfl, rfl, ⟨za5 HF.out hb⟩⟩
    case last =>
     rintro L ac V ⟨l0, l1, l2, l3, l4, l5, l6, l7, l8, rfl, rfl, HF⟩ hr
     obtain ⟨rfl, rfl, rfl, rfl, rfl, rfl, rfl, rfl, rfl, -⟩ := AnyOrder.alls rfl (by kernel_rfl) hr
     clear hr
     simp only [sel_true, selv_true]
     have HB := za0.mk (za5 HB.out (za5 (za3 (Below.refl _ wr)) HF.out))
     have HO := za0.mk (RN.below' HO.out (za5 (za3 (Below.refl _ wr)) HF.out))
     have HTA := za0.mk (tail_row Tryz.underlying23 HCA.out HN.out.2.2.1)
     have HTB := za0.mk (tail_row Tryz.underlying23 HCB.out HN.out.2.2.2.1)
     have HLA : za0 (na = la.length + 1 ∧ nb = lb.length + 1) := ⟨HN.out.1.symm, HN.out.2.1.symm⟩
     have HJC := za0.mk (joinOf_cons x y la lb)
     clear HF
     generalize V = V6 at *
     cases hxy : dotLt x.f0 y.f0 with
     | true =>
      rw [cmp_lt hxy]
      have HJ : za0 ((joinOf la (y :: lb)).map ((out ++ [x]) ++ ·) = joinOf l0 l1) := ⟨by
       rw [← HJ.out, HJC.out, if_pos hxy, Option.map_map]
       congr 1
       funext r
       simp⟩
      clear hxy HTB HJC
      obtain ⟨A', c', hC', hc', hT'⟩ := HTA.out
      obtain ⟨na', Hna'⟩ : ∃ n, za0 (la.length = n) := ⟨_, ⟨rfl⟩⟩
      rw [Hna'.out] at hC' hc' hT' HLA
      have HC' := za0.mk hC'
      have Hc' := za0.mk hc'
      have HTS := za0.mk hT'
      clear HTA hC' hc' hT'
      go_wp2_with fail
      refine AnyOrder.wp_region (by kernel_rfl) (jn11Inv w ada adb Ao A' na ca nb cb no co na' c' x y out _ _ _ _ _ _ _ _ _ _ _ _ _ _ _ _ _ _ _ _ _ _ _ _ _ _ _ _ _ _ _ _ _ _ _ _ _ _ _ _ _ _ _ _ _ _ _ _ _ _ _ _ _ _ _ _ _ _ _ _ _ _ _ _ _ _ _ _ _ _ _ _ _ _ _ _ _) ⟨false, false, false, false, false, false, false, false, false, false, 0, undef, rfl, rfl, ⟨⟨fun h => (by cases h), fun h => (by cases h), fun h => (by cases h), fun h => (by cases h), za5 HB.out (za3 (Below.refl _ V6)), fun _ => RN.below' HO.out (za3 (Below.refl _ V6)), fun h _ => (by cases h), fun h => (by cases h), fun _ => trivial, fun _ => rfl⟩⟩⟩ ?step ?last
      case step =>
       rintro L ac V i ⟨l0, l1, l2, l3, l4, l5, l6, l7, l8, l9, g, v2, rfl, rfl, HF⟩ hi K hK
       rcases AnyOrder.up hi [0, 1, 2, 3, 4, 5, 6, 7, 8, 9] rfl with rfl | rfl | rfl | rfl | rfl | rfl | rfl | rfl | rfl | rfl
       all_goals
        replace hi := AnyOrder.first hi rfl
        repeat (obtain ⟨ha, hi⟩ := hi; first | obtain rfl := ha | clear ha)
        clear hi
        try simp only [sel_true, selv_true] at hK ⊢
       ·
        obtain rfl : l8 = false := by cases l8 with | false => rfl | true => cases (HF.out.ord8 rfl).2
        (try simp only [selv_false] at hK ⊢)
        refine AnyOrder.wpOp_go rfl (by rfl) ?_
        go_wp2_with fail
        exact ⟨_, _, _, _, _, _, _, _, _, _, g, v2, rfl, rfl, ⟨⟨HF.out.ord5, fun h => (by cases h), HF.out.ord9, HF.out.ord10, HF.out.below, HF.out.r1, HF.out.bx, HF.out.r2, HF.out.kz, HF.out.ordB⟩⟩⟩
       ·
        obtain rfl : l9 = false := by cases l9 with | false => rfl | true => cases (HF.out.ord9 rfl).1
        (try simp only [selv_false] at hK ⊢)
        refine AnyOrder.wpOp_go rfl (by rfl) ?_
        go_wp2_with fail
        exact ⟨_, _, _, _, _, _, _, _, _, _, g, v2, rfl, rfl, ⟨⟨HF.out.ord5, HF.out.ord8, fun h => (by cases h), HF.out.ord10, HF.out.below, HF.out.r1, HF.out.bx, HF.out.r2, HF.out.kz, HF.out.ordB⟩⟩⟩
       ·
        have hna := HNA.out
        refine AnyOrder.wpOp_go rfl (by rfl) ?_
        go_wp2_with fail
        exact ⟨_, _, _, _, _, _, _, _, _, _, g, v2, rfl, rfl, HF⟩
       ·
        obtain ⟨q0, q1, q2, q3, q4, q5⟩ := node_first HCA.out HF.out.below
        refine AnyOrder.wpOp_go rfl (by rfl) ?_
        go_wp2_with fail
        exact ⟨_, _, _, _, _, _, _, _, _, _, g, v2, rfl, rfl, HF⟩
       ·
        obtain rfl : l5 = false := by cases l5 with | false => rfl | true => cases HF.out.ord5 rfl
        obtain rfl : l8 = false := by cases l8 with | false => rfl | true => cases (HF.out.ord8 rfl).1
        have hb1 := za2 (Below.refl _ V) (boxN x)
        (try simp only [selv_false] at hK ⊢)
        refine AnyOrder.wpOp_go rfl (by rfl) ?_
        go_wp2_with fail
        exact ⟨_, _, _, _, _, _, _, _, _, _, V.heap.size, v2, rfl, rfl, ⟨⟨fun h => (by cases h), fun h => (by cases h), HF.out.ord9, HF.out.ord10, za5 HF.out.below hb1, fun _ => RN.below' (HF.out.r1 rfl) hb1, fun _ _ => zal _ _, fun h => (by cases h), fun _ => trivial, fun _ => rfl⟩⟩⟩
       ·
        obtain rfl : l8 = false := by cases l8 with | false => rfl | true => cases (HF.out.ord8 rfl).1
        have hr1 := HF.out.r1 rfl
        (try simp only [selv_false] at hK ⊢)
        refine AnyOrder.wpOp_go rfl (by rfl) ?_
        refine op_append_rows Tryz.underlying23 w.heap.size rfl (.tmp 57) (.tmp 61) rfl (.slice Ao no co) out [x] (some ⟨g, 0, none⟩) 1 1 rfl rfl hr1 (boxN_C (HF.out.bx rfl rfl)) HF.out.below.size (by have := HNO.out; have := HN.out; omega) ?_
        intro v3 W3 h1 h2 _
        exact hK _ _ ⟨_, _, _, _, _, _, _, _, _, _, g, v3, rfl, rfl, ⟨⟨fun _ => rfl, fun h => (by cases h), HF.out.ord9, HF.out.ord10, grown_below HF.out.below hr1 h2, fun h => (by cases h), fun _ => fun h => (by cases h), fun _ => h1, fun h => (by cases h), HF.out.ordB⟩⟩⟩
       ·
        obtain rfl : l9 = false := by cases l9 with | false => rfl | true => cases (HF.out.ord9 rfl).2
        (try simp only [selv_false] at hK ⊢)
        refine AnyOrder.wpOp_go rfl (by rfl) ?_
        go_wp2_with fail
        exact ⟨_, _, _, _, _, _, _, _, _, _, g, v2, rfl, rfl, ⟨⟨HF.out.ord5, HF.out.ord8, fun h => (by cases h), HF.out.ord10, HF.out.below, HF.out.r1, HF.out.bx, HF.out.r2, HF.out.kz, HF.out.ordB⟩⟩⟩
       ·
        refine AnyOrder.wpOp_go rfl (by rfl) ?_
        refine op_slice 23 (.tmp 63) (some (.const (.int .i64 1))) none rfl rfl rfl rfl (HTS.out V) ?_
        exact hK _ _ ⟨_, _, _, _, _, _, _, _, _, _, g, v2, rfl, rfl, HF⟩
       ·
        refine AnyOrder.wpOp_go rfl (by rfl) ?_
        go_wp2_with fail
        exact ⟨_, _, _, _, _, _, _, _, _, _, g, v2, rfl, rfl, ⟨⟨HF.out.ord5, fun _ => ⟨rfl, rfl⟩, HF.out.ord9, HF.out.ord10, HF.out.below, HF.out.r1, HF.out.bx, HF.out.r2, HF.out.kz, HF.out.ordB⟩⟩⟩
       ·
        refine AnyOrder.wpOp_go rfl (by rfl) ?_
        go_wp2_with fail
        exact ⟨_, _, _, _, _, _, _, _, _, _, g, v2, rfl, rfl, ⟨⟨HF.out.ord5, HF.out.ord8, fun _ => ⟨rfl, rfl⟩, HF.out.ord10, HF.out.below, HF.out.r1, HF.out.bx, HF.out.r2, HF.out.kz, HF.out.ordB⟩⟩⟩
      case last =>
       rintro L ac V ⟨l0, l1, l2, l3, l4, l5, l6, l7, l8, l9, g, v2, rfl, rfl, HF⟩ hr
       obtain ⟨rfl, rfl, rfl, rfl, rfl, rfl, rfl, rfl, rfl, rfl, -⟩ := AnyOrder.alls rfl (by kernel_rfl) hr
       clear hr
       simp only [sel_true, selv_true]
       have HO := za0.mk (HF.out.r2 rfl)
       have HB := za0.mk HF.out.below
       obtain ⟨A3, c3, rfl⟩ := RN.slice HO.out
       have HL3 : za0 ((out ++ [x]).length = no + 1) := ⟨by rw [List.length_append, HNO.out]; rfl⟩
       rw [HL3.out] at HO ⊢
       clear HF
       go_wp2
       go_roundw
       case rel => exact ⟨la, y :: lb, out ++ [x], A', _, A3, na', nb, no + 1, c', cb, c3, rfl, rfl, rfl, ⟨Hna'.out, HN.out.2.1, Hc'.out, HN.out.2.2.2.1, by have := HN.out; have := HLA.out; omega⟩, HC', HCB, HO, ⟨fun z hz => HOK.out.1 z (List.mem_cons_of_mem _ hz), HOK.out.2⟩, HJ, HB⟩
       case measure => have := HLA.out; simp only [lenV]; omega
     | false =>
      cases hyx : dotLt y.f0 x.f0 with
      | true =>
       rw [cmp_gt hxy hyx]
       have HJ : za0 ((joinOf (x :: la) lb).map ((out ++ [y]) ++ ·) = joinOf l0 l1) := ⟨by
        rw [← HJ.out, HJC.out, if_neg (by rw [hxy]; decide), if_pos hyx, Option.map_map]
        congr 1
        funext r
        simp⟩
       clear hxy hyx HTA HJC
       obtain ⟨A', c', hC', hc', hT'⟩ := HTB.out
       obtain ⟨nb', Hnb'⟩ : ∃ n, za0 (lb.length = n) := ⟨_, ⟨rfl⟩⟩
       rw [Hnb'.out] at hC' hc' hT' HLA
       have HC' := za0.mk hC'
       have Hc' := za0.mk hc'
       have HTS := za0.mk hT'
       clear HTB hC' hc' hT'
       go_wp2_with fail
       refine AnyOrder.wp_region (by kernel_rfl) (jn13Inv w ada adb Ao A' na ca nb cb no co nb' c' x y out _ _ _ _ _ _ _ _ _ _ _ _ _ _ _ _ _ _ _ _ _ _ _ _ _ _ _ _ _ _ _ _ _ _ _ _ _ _ _ _ _ _ _ _ _ _ _ _ _ _ _ _ _ _ _ _ _ _ _ _ _ _ _ _ _ _ _ _ _ _ _ _ _ _ _ _ _) ⟨false, false, false, false, false, false, false, false, false, false, 0, undef, rfl, rfl, ⟨⟨fun h => (by cases h), fun h => (by cases h), fun h => (by cases h), fun h => (by cases h), za5 HB.out (za3 (Below.refl _ V6)), fun _ => RN.below' HO.out (za3 (Below.refl _ V6)), fun h _ => (by cases h), fun h => (by cases h), fun _ => trivial, fun _ => rfl⟩⟩⟩ ?step ?last
       case step =>
        rintro L ac V i ⟨l0, l1, l2, l3, l4, l5, l6, l7, l8, l9, g, v2, rfl, rfl, HF⟩ hi K hK
        rcases AnyOrder.up hi [0, 1, 2, 3, 4, 5, 6, 7, 8, 9] rfl with rfl | rfl | rfl | rfl | rfl | rfl | rfl | rfl | rfl | rfl
        all_goals
         replace hi := AnyOrder.first hi rfl
         repeat (obtain ⟨ha, hi⟩ := hi; first | obtain rfl := ha | clear ha)
         clear hi
         try simp only [sel_true, selv_true] at hK ⊢
        ·
         obtain rfl : l8 = false := by cases l8 with | false => rfl | true => cases (HF.out.ord8 rfl).2
         (try simp only [selv_false] at hK ⊢)
         refine AnyOrder.wpOp_go rfl (by rfl) ?_
         go_wp2_with fail
         exact ⟨_, _, _, _, _, _, _, _, _, _, g, v2, rfl, rfl, ⟨⟨HF.out.ord5, fun h => (by cases h), HF.out.ord9, HF.out.ord10, HF.out.below, HF.out.r1, HF.out.bx, HF.out.r2, HF.out.kz, HF.out.ordB⟩⟩⟩
        ·
         obtain rfl : l9 = false := by cases l9 with | false => rfl | true => cases (HF.out.ord9 rfl).1
         (try simp only [selv_false] at hK ⊢)
         refine AnyOrder.wpOp_go rfl (by rfl) ?_
         go_wp2_with fail
         exact ⟨_, _, _, _, _, _, _, _, _, _, g, v2, rfl, rfl, ⟨⟨HF.out.ord5, HF.out.ord8, fun h => (by cases h), HF.out.ord10, HF.out.below, HF.out.r1, HF.out.bx, HF.out.r2, HF.out.kz, HF.out.ordB⟩⟩⟩
        ·
         have hna := HNB.out
         refine AnyOrder.wpOp_go rfl (by rfl) ?_
         go_wp2_with fail
         exact ⟨_, _, _, _, _, _, _, _, _, _, g, v2, rfl, rfl, HF⟩
        ·
         obtain ⟨q0, q1, q2, q3, q4, q5⟩ := node_first HCB.out HF.out.below
         refine AnyOrder.wpOp_go rfl (by rfl) ?_
         go_wp2_with fail
         exact ⟨_, _, _, _, _, _, _, _, _, _, g, v2, rfl, rfl, HF⟩
        ·
         obtain rfl : l5 = false := by cases l5 with | false => rfl | true => cases HF.out.ord5 rfl
         obtain rfl : l8 = false := by cases l8 with | false => rfl | true => cases (HF.out.ord8 rfl).1
         have hb1 := za2 (Below.refl _ V) (boxN y)
         (try simp only [selv_false] at hK ⊢)
         refine AnyOrder.wpOp_go rfl (by rfl) ?_
         go_wp2_with fail
         exact ⟨_, _, _, _, _, _, _, _, _, _, V.heap.size, v2, rfl, rfl, ⟨⟨fun h => (by cases h), fun h => (by cases h), HF.out.ord9, HF.out.ord10, za5 HF.out.below hb1, fun _ => RN.below' (HF.out.r1 rfl) hb1, fun _ _ => zal _ _, fun h => (by cases h), fun _ => trivial, fun _ => rfl⟩⟩⟩
        ·
         obtain rfl : l8 = false := by cases l8 with | false => rfl | true => cases (HF.out.ord8 rfl).1
         have hr1 := HF.out.r1 rfl
         (try simp only [selv_false] at hK ⊢)
         refine AnyOrder.wpOp_go rfl (by rfl) ?_
         refine op_append_rows Tryz.underlying23 w.heap.size rfl (.tmp 67) (.tmp 71) rfl (.slice Ao no co) out [y] (some ⟨g, 0, none⟩) 1 1 rfl rfl hr1 (boxN_C (HF.out.bx rfl rfl)) HF.out.below.size (by have := HNO.out; have := HN.out; omega) ?_
         intro v3 W3 h1 h2 _
         exact hK _ _ ⟨_, _, _, _, _, _, _, _, _, _, g, v3, rfl, rfl, ⟨⟨fun _ => rfl, fun h => (by cases h), HF.out.ord9, HF.out.ord10, grown_below HF.out.below hr1 h2, fun h => (by cases h), fun _ => fun h => (by cases h), fun _ => h1, fun h => (by cases h), HF.out.ordB⟩⟩⟩
        ·
         obtain rfl : l9 = false := by cases l9 with | false => rfl | true => cases (HF.out.ord9 rfl).2
         (try simp only [selv_false] at hK ⊢)
         refine AnyOrder.wpOp_go rfl (by rfl) ?_
         go_wp2_with fail
         exact ⟨_, _, _, _, _, _, _, _, _, _, g, v2, rfl, rfl, ⟨⟨HF.out.ord5, HF.out.ord8, fun h => (by cases h), HF.out.ord10, HF.out.below, HF.out.r1, HF.out.bx, HF.out.r2, HF.out.kz, HF.out.ordB⟩⟩⟩
        ·
         refine AnyOrder.wpOp_go rfl (by rfl) ?_
         refine op_slice 23 (.tmp 73) (some (.const (.int .i64 1))) none rfl rfl rfl rfl (HTS.out V) ?_
         exact hK _ _ ⟨_, _, _, _, _, _, _, _, _, _, g, v2, rfl, rfl, HF⟩
        ·
         refine AnyOrder.wpOp_go rfl (by rfl) ?_
         go_wp2_with fail
         exact ⟨_, _, _, _, _, _, _, _, _, _, g, v2, rfl, rfl, ⟨⟨HF.out.ord5, fun _ => ⟨rfl, rfl⟩, HF.out.ord9, HF.out.ord10, HF.out.below, HF.out.r1, HF.out.bx, HF.out.r2, HF.out.kz, HF.out.ordB⟩⟩⟩
        ·
         refine AnyOrder.wpOp_go rfl (by rfl) ?_
         go_wp2_with fail
         exact ⟨_, _, _, _, _, _, _, _, _, _, g, v2, rfl, rfl, ⟨⟨HF.out.ord5, HF.out.ord8, fun _ => ⟨rfl, rfl⟩, HF.out.ord10, HF.out.below, HF.out.r1, HF.out.bx, HF.out.r2, HF.out.kz, HF.out.ordB⟩⟩⟩
       case last =>
        rintro L ac V ⟨l0, l1, l2, l3, l4, l5, l6, l7, l8, l9, g, v2, rfl, rfl, HF⟩ hr
        obtain ⟨rfl, rfl, rfl, rfl, rfl, rfl, rfl, rfl, rfl, rfl, -⟩ := AnyOrder.alls rfl (by kernel_rfl) hr
        clear hr
        simp only [sel_true, selv_true]
        have HO := za0.mk (HF.out.r2 rfl)
        have HB := za0.mk HF.out.below
        obtain ⟨A3, c3, rfl⟩ := RN.slice HO.out
        have HL3 : za0 ((out ++ [y]).length = no + 1) := ⟨by rw [List.length_append, HNO.out]; rfl⟩
        rw [HL3.out] at HO ⊢
        clear HF
        go_wp2
        go_roundw
        case rel => exact ⟨x :: la, lb, out ++ [y], _, A', A3, na, nb', no + 1, ca, c', c3, rfl, rfl, rfl, ⟨HN.out.1, Hnb'.out, HN.out.2.2.1, Hc'.out, by have := HN.out; have := HLA.out; omega⟩, HCA, HC', HO, ⟨HOK.out.1, fun z hz => HOK.out.2 z (List.mem_cons_of_mem _ hz)⟩, HJ, HB⟩
        case measure => have := HLA.out; simp only [lenV]; omega
      | false =>
       rw [cmp_eq hxy hyx]
       have HJC : za0 (joinOf (x :: la) (y :: lb) = (mergeN x y).bind fun z => (joinOf la lb).map (z :: ·)) := ⟨by rw [HJC.out, if_neg (by rw [hxy]; decide), if_neg (by rw [hyx]; decide)]⟩
       have HMC := za0.mk (fun W => merge_call x y W (HOK.out.1 x (List.mem_cons_self ..)) (HOK.out.2 y (List.mem_cons_self ..)) (dotLt_total hxy hyx))
       clear hxy hyx
       obtain ⟨z, er, HZ⟩ : ∃ z er, za0 (mergeV x y = .tuple #[vNode z, .int .i64 er] ∧ ((mergeN x y = some z ∧ er = 0) ∨ (mergeN x y = none ∧ er = 15))) := by
        unfold mergeV
        cases mergeN x y with
        | none => exact ⟨nodeZ, 15, ⟨rfl, .inr ⟨rfl, rfl⟩⟩⟩
        | some z => exact ⟨z, 0, ⟨rfl, .inl ⟨rfl, rfl⟩⟩⟩
       rw [HZ.out.1] at HMC
       go_wp2_with fail
       refine AnyOrder.wp_region (by kernel_rfl) (jn6Inv w ada adb Ao na ca nb cb no co x y z er out _ _ _ _ _ _ _ _ _ _ _ _ _ _ _ _ _ _ _ _ _ _ _ _ _ _ _ _ _ _ _ _ _ _ _ _ _ _ _ _ _ _ _ _ _ _ _ _ _ _ _ _ _ _ _ _ _ _ _ _ _ _ _ _ _ _ _ _ _ _ _ _ _ _ _ _ _) ⟨false, false, false, false, false, false, false, false, false, false, false, false, false, 0, rfl, rfl, ⟨⟨fun h => (by cases h), za5 HB.out (za3 (Below.refl _ V6)), RN.below' HO.out (za3 (Below.refl _ V6)), fun h _ => (by cases h), fun h => (by cases h), fun h => (by cases h)⟩⟩⟩ ?step ?last
       case step =>
        rintro L ac V i ⟨l0, l1, l2, l3, l4, l5, l6, l7, l8, l9, l10, l11, l12, g, rfl, rfl, HF⟩ hi K hK
        rcases AnyOrder.up hi [0, 3, 7, 8, 9, 12, 1, 2, 4, 5, 6, 10, 11] rfl with rfl | rfl | rfl | rfl | rfl | rfl | rfl | rfl | rfl | rfl | rfl | rfl | rfl
        all_goals
         replace hi := AnyOrder.first hi rfl
         repeat (obtain ⟨ha, hi⟩ := hi; first | obtain rfl := ha | clear ha)
         clear hi
         try simp only [sel_true, selv_true] at hK ⊢
        iterate 6
         ·
          refine AnyOrder.wpOp_go rfl (by rfl) ?_
          go_wp2_with fail
          exact ⟨_, _, _, _, _, _, _, _, _, _, _, _, _, g, rfl, rfl, HF⟩
        ·
         have hna := HNA.out
         refine AnyOrder.wpOp_go rfl (by rfl) ?_
         go_wp2_with fail
         exact ⟨_, _, _, _, _, _, _, _, _, _, _, _, _, g, rfl, rfl, HF⟩
        ·
         obtain ⟨q0, q1, q2, q3, q4, q5⟩ := node_first HCA.out HF.out.below
         refine AnyOrder.wpOp_go rfl (by rfl) ?_
         go_wp2_with fail
         exact ⟨_, _, _, _, _, _, _, _, _, _, _, _, _, g, rfl, rfl, HF⟩
        ·
         have hnb := HNB.out
         refine AnyOrder.wpOp_go rfl (by rfl) ?_
         go_wp2_with fail
         exact ⟨_, _, _, _, _, _, _, _, _, _, _, _, _, g, rfl, rfl, HF⟩
        ·
         obtain ⟨q0, q1, q2, q3, q4, q5⟩ := node_first HCB.out HF.out.below
         refine AnyOrder.wpOp_go rfl (by rfl) ?_
         go_wp2_with fail
         exact ⟨_, _, _, _, _, _, _, _, _, _, _, _, _, g, rfl, rfl, HF⟩
        ·
         refine AnyOrder.wpOp_go rfl (by rfl) ?_
         go_wp2_with fail
         refine (HMC.out V).mono ?_
         rintro e V' ⟨rfl, hb⟩
         exact hK _ _ ⟨_, _, _, _, _, _, _, _, _, _, _, _, _, g, rfl, rfl, ⟨⟨HF.out.ord, za5 HF.out.below hb, RN.below' HF.out.r1 hb, fun h k => za7 (HF.out.bz h k) hb, fun h => za7 (HF.out.bx h) hb, HF.out.ge⟩⟩⟩
        ·
         obtain rfl : l11 = false := by cases l11 with | false => rfl | true => cases HF.out.ord rfl
         have hb1 := za2 (Below.refl _ V) boxZ
         refine AnyOrder.wpOp_go rfl (by rfl) ?_
         go_wp2_with fail
         exact ⟨_, _, _, _, _, _, _, _, _, _, _, _, _, V.heap.size, rfl, rfl, ⟨⟨fun h => (by cases h), za5 HF.out.below hb1, RN.below' HF.out.r1 hb1, fun _ _ => zal _ _, fun h => (by cases h), fun _ => ⟨HF.out.below.size, fun q hq => Nat.ne_of_lt (RN.lt HF.out.r1 hq)⟩⟩⟩⟩
        ·
         refine AnyOrder.wpOp_go rfl (by rfl) ?_
         refine op_boxNode (.tmp 7) (.tmp 42) rfl rfl (HF.out.bz rfl rfl) z rfl rfl ?_
         intro W4 h1 h2
         exact hK _ _ ⟨_, _, _, _, _, _, _, _, _, _, _, _, _, g, rfl, rfl, ⟨⟨fun _ => rfl, HF.out.below.grown h2 HF.out.below.size (fun k e => by cases e; exact (HF.out.ge rfl).1), RN.keep HF.out.r1 (fun q hq => h2.block q (RN.lt HF.out.r1 hq) (fun e => (HF.out.ge rfl).2 q hq (Option.some.inj e))), fun _ h => (by cases h), fun _ => h1, HF.out.ge⟩⟩⟩
       case last =>
        rintro L ac V ⟨l0, l1, l2, l3, l4, l5, l6, l7, l8, l9, l10, l11, l12, g, rfl, rfl, HF⟩ hr
        obtain ⟨rfl, rfl, rfl, rfl, rfl, rfl, rfl, rfl, rfl, rfl, rfl, rfl, rfl, -⟩ := AnyOrder.alls rfl (by kernel_rfl) hr
        clear hr
        simp only [sel_true, selv_true]
        have HB := za0.mk HF.out.below
        have HO := za0.mk HF.out.r1
        have HBX := za0.mk (HF.out.bx rfl)
        have HGE := za0.mk (HF.out.ge rfl)
        clear HF HMC
        rcases HZ.out.2 with ⟨hm, he⟩ | ⟨hm, he⟩
        ·
         subst he
         have HJ : za0 ((joinOf la lb).map ((out ++ [z]) ++ ·) = joinOf l0 l1) := ⟨by
          rw [← HJ.out, HJC.out, hm, Option.bind_some, Option.map_map]
          congr 1
          funext r
          simp⟩
         clear HJC hm
         obtain ⟨A', c', hC', hc', hT'⟩ := HTA.out
         obtain ⟨B', d', hD', hd', hU'⟩ := HTB.out
         obtain ⟨na', Hna'⟩ : ∃ n, za0 (la.length = n) := ⟨_, ⟨rfl⟩⟩
         obtain ⟨nb', Hnb'⟩ : ∃ n, za0 (lb.length = n) := ⟨_, ⟨rfl⟩⟩
         rw [Hna'.out] at hC' hc' hT' HLA
         rw [Hnb'.out] at hD' hd' hU' HLA
         have HC' := za0.mk hC'
         have Hc' := za0.mk hc'
         have HTS := za0.mk hT'
         have HD' := za0.mk hD'
         have Hd' := za0.mk hd'
         have HTU := za0.mk hU'
         clear HTA HTB hC' hc' hT' hD' hd' hU'
         generalize V = V7 at *
         go_wp2_with fail
         refine AnyOrder.wp_region (by kernel_rfl) (jn9Inv w ada adb Ao A' B' na ca nb cb no co na' c' nb' d' g x y z out _ _ _ _ _ _ _ _ _ _ _ _ _ _ _ _ _ _ _ _ _ _ _ _ _ _ _ _ _ _ _ _ _ _ _ _ _ _ _ _ _ _ _ _ _ _ _ _ _ _ _ _ _ _ _ _ _ _ _ _ _ _ _ _ _ _ _ _ _ _ _ _ _ _ _ _) ⟨false, false, false, false, false, false, false, false, false, false, false, 0, undef, rfl, rfl, ⟨⟨fun h => (by cases h), fun h => (by cases h), fun h => (by cases h), fun h => (by cases h), za5 HB.out (za3 (Below.refl _ V7)), fun _ => RN.below' HO.out (za3 (Below.refl _ V7)), fun h _ => (by cases h), fun h => (by cases h), fun _ => za7 HBX.out (za3 (Below.refl _ V7)), fun h => (by cases h)⟩⟩⟩ ?step ?last
         case step =>
          rintro L ac V i ⟨l0, l1, l2, l3, l4, l5, l6, l7, l8, l9, l10, g, v2, rfl, rfl, HF⟩ hi K hK
          rcases AnyOrder.up hi [0, 1, 2, 3, 4, 5, 6, 7, 8, 9, 10] rfl with rfl | rfl | rfl | rfl | rfl | rfl | rfl | rfl | rfl | rfl | rfl
          all_goals
           replace hi := AnyOrder.first hi rfl
           repeat (obtain ⟨ha, hi⟩ := hi; first | obtain rfl := ha | clear ha)
           clear hi
           try simp only [sel_true, selv_true] at hK ⊢
          ·
           obtain rfl : l8 = false := by cases l8 with | false => rfl | true => cases (HF.out.ord8 rfl).2
           (try simp only [selv_false] at hK ⊢)
           refine AnyOrder.wpOp_go rfl (by rfl) ?_
           go_wp2_with fail
           exact ⟨_, _, _, _, _, _, _, _, _, _, _, g, v2, rfl, rfl, ⟨⟨HF.out.ord5, fun h => (by cases h), HF.out.ord9, HF.out.ord10, HF.out.below, HF.out.r1, HF.out.bx, HF.out.r2, HF.out.kz, HF.out.ordB⟩⟩⟩
          ·
           obtain rfl : l2 = false := by cases l2 with | false => rfl | true => cases HF.out.ordB rfl
           obtain rfl : l3 = false := by cases l3 with | false => rfl | true => cases HF.out.ord5 rfl
           (try simp only [selv_false] at hK ⊢)
           obtain ⟨q0, q1, q2, q3, q4, q5⟩ := box_six (HF.out.kz rfl)
           refine AnyOrder.wpOp_go rfl (by rfl) ?_
           go_wp2_with fail
           exact ⟨_, _, _, _, _, _, _, _, _, _, _, g, v2, rfl, rfl, ⟨⟨HF.out.ord5, HF.out.ord8, HF.out.ord9, HF.out.ord10, HF.out.below, HF.out.r1, HF.out.bx, HF.out.r2, HF.out.kz, fun _ => rfl⟩⟩⟩
          ·
           obtain rfl : l3 = false := by cases l3 with | false => rfl | true => cases HF.out.ord5 rfl
           obtain rfl : l8 = false := by cases l8 with | false => rfl | true => cases (HF.out.ord8 rfl).1
           have hb1 := za2 (Below.refl _ V) (boxN z)
           (try simp only [selv_false] at hK ⊢)
           refine AnyOrder.wpOp_go rfl (by rfl) ?_
           go_wp2_with fail
           exact ⟨_, _, _, _, _, _, _, _, _, _, _, V.heap.size, v2, rfl, rfl, ⟨⟨fun h => (by cases h), fun h => (by cases h), HF.out.ord9, HF.out.ord10, za5 HF.out.below hb1, fun _ => RN.below' (HF.out.r1 rfl) hb1, fun _ _ => zal _ _, fun h => (by cases h), fun _ => za7 (HF.out.kz rfl) hb1, fun _ => rfl⟩⟩⟩
          ·
           obtain rfl : l8 = false := by cases l8 with | false => rfl | true => cases (HF.out.ord8 rfl).1
           have hr1 := HF.out.r1 rfl
           (try simp only [selv_false] at hK ⊢)
           refine AnyOrder.wpOp_go rfl (by rfl) ?_
           refine op_append_rows Tryz.underlying23 w.heap.size rfl (.tmp 47) (.tmp 49) rfl (.slice Ao no co) out [z] (some ⟨g, 0, none⟩) 1 1 rfl rfl hr1 (boxN_C (HF.out.bx rfl rfl)) HF.out.below.size (by have := HNO.out; have := HN.out; omega) ?_
           intro v3 W3 h1 h2 _
           exact hK _ _ ⟨_, _, _, _, _, _, _, _, _, _, _, g, v3, rfl, rfl, ⟨⟨fun _ => rfl, fun h => (by cases h), HF.out.ord9, HF.out.ord10, grown_below HF.out.below hr1 h2, fun h => (by cases h), fun _ => fun h => (by cases h), fun _ => h1, fun h => (by cases h), HF.out.ordB⟩⟩⟩
          ·
           obtain rfl : l9 = false := by cases l9 with | false => rfl | true => cases (HF.out.ord9 rfl).1
           (try simp only [selv_false] at hK ⊢)
           refine AnyOrder.wpOp_go rfl (by rfl) ?_
           go_wp2_with fail
           exact ⟨_, _, _, _, _, _, _, _, _, _, _, g, v2, rfl, rfl, ⟨⟨HF.out.ord5, HF.out.ord8, fun h => (by cases h), HF.out.ord10, HF.out.below, HF.out.r1, HF.out.bx, HF.out.r2, HF.out.kz, HF.out.ordB⟩⟩⟩
          ·
           refine AnyOrder.wpOp_go rfl (by rfl) ?_
           refine op_slice 23 (.tmp 51) (some (.const (.int .i64 1))) none rfl rfl rfl rfl (HTS.out V) ?_
           exact hK _ _ ⟨_, _, _, _, _, _, _, _, _, _, _, g, v2, rfl, rfl, HF⟩
          ·
           obtain rfl : l10 = false := by cases l10 with | false => rfl | true => cases HF.out.ord10 rfl
           (try simp only [selv_false] at hK ⊢)
           refine AnyOrder.wpOp_go rfl (by rfl) ?_
           go_wp2_with fail
           exact ⟨_, _, _, _, _, _, _, _, _, _, _, g, v2, rfl, rfl, ⟨⟨HF.out.ord5, HF.out.ord8, HF.out.ord9, fun h => (by cases h), HF.out.below, HF.out.r1, HF.out.bx, HF.out.r2, HF.out.kz, HF.out.ordB⟩⟩⟩
          ·
           refine AnyOrder.wpOp_go rfl (by rfl) ?_
           refine op_slice 23 (.tmp 53) (some (.const (.int .i64 1))) none rfl rfl rfl rfl (HTU.out V) ?_
           exact hK _ _ ⟨_, _, _, _, _, _, _, _, _, _, _, g, v2, rfl, rfl, HF⟩
          ·
           refine AnyOrder.wpOp_go rfl (by rfl) ?_
           go_wp2_with fail
           exact ⟨_, _, _, _, _, _, _, _, _, _, _, g, v2, rfl, rfl, ⟨⟨HF.out.ord5, fun _ => ⟨rfl, rfl⟩, HF.out.ord9, HF.out.ord10, HF.out.below, HF.out.r1, HF.out.bx, HF.out.r2, HF.out.kz, HF.out.ordB⟩⟩⟩
          ·
           refine AnyOrder.wpOp_go rfl (by rfl) ?_
           go_wp2_with fail
           exact ⟨_, _, _, _, _, _, _, _, _, _, _, g, v2, rfl, rfl, ⟨⟨HF.out.ord5, HF.out.ord8, fun _ => ⟨rfl, rfl⟩, HF.out.ord10, HF.out.below, HF.out.r1, HF.out.bx, HF.out.r2, HF.out.kz, HF.out.ordB⟩⟩⟩
          ·
           refine AnyOrder.wpOp_go rfl (by rfl) ?_
           go_wp2_with fail
           exact ⟨_, _, _, _, _, _, _, _, _, _, _, g, v2, rfl, rfl, ⟨⟨HF.out.ord5, HF.out.ord8, HF.out.ord9, fun _ => rfl, HF.out.below, HF.out.r1, HF.out.bx, HF.out.r2, HF.out.kz, HF.out.ordB⟩⟩⟩
         case last =>
          rintro L ac V ⟨l0, l1, l2, l3, l4, l5, l6, l7, l8, l9, l10, g, v2, rfl, rfl, HF⟩ hr
          obtain ⟨rfl, rfl, rfl, rfl, rfl, rfl, rfl, rfl, rfl, rfl, rfl, -⟩ := AnyOrder.alls rfl (by kernel_rfl) hr
          clear hr
          simp only [sel_true, selv_true]
          have HO := za0.mk (HF.out.r2 rfl)
          have HB := za0.mk HF.out.below
          obtain ⟨A3, c3, rfl⟩ := RN.slice HO.out
          have HL3 : za0 ((out ++ [z]).length = no + 1) := ⟨by rw [List.length_append, HNO.out]; rfl⟩
          rw [HL3.out] at HO ⊢
          clear HF
          go_wp2
          go_roundw
          case rel => exact ⟨la, lb, out ++ [z], A', B', A3, na', nb', no + 1, c', d', c3, rfl, rfl, rfl, ⟨Hna'.out, Hnb'.out, Hc'.out, Hd'.out, by have := HN.out; have := HLA.out; omega⟩, HC', HD', HO, ⟨fun z hz => HOK.out.1 z (List.mem_cons_of_mem _ hz), fun z hz => HOK.out.2 z (List.mem_cons_of_mem _ hz)⟩, HJ, HB⟩
          case measure => have := HLA.out; simp only [lenV]; omega
        ·
         subst he
         have HJN : za0 (joinOf l0 l1 = none) := ⟨by rw [← HJ.out, HJC.out, hm]; rfl⟩
         go_wp2
         go_ret2
         have hfin := HRJ.out
         rw [HJN.out] at hfin
         cases hfin
         exact ⟨_, rfl, Kd.R_nil _ _ _ _ _, HB.out⟩
end
section
theorem op_boxDot {o : Oper} {a : Act} {K : Act → World → Prop} {Q : Exit → Act → World → Prop} (s x : Operand) (ho : o.op = .store 25 s x) (hd : o.dst = none) {w : World} {g : Nat} {e : Dot}
  (hg : w.heap[g]? = some (dotC e)) (y : Dot) (hs : a.eval s = .pointer (some ⟨g, 0, none⟩)) (hx : a.eval x = vDot y)
  (hk : ∀ w', w'.heap[g]? = some (dotC y) → w.grownBy w' (some g) → K a w') : o.wp Tryz.prog a w K Q := by
 obtain ⟨i0, hi0, hz0, hz1, hz2⟩ := info_get infoD
 refine wp_store_row 25 s x ho g _ hs hx 25 _ hg (by rw [hi0]; show some i0.size = some 2; rw [hz1]) rfl (Array.all_eq_true_iff_forall_mem.2 (by intro v hv; simp at hv; rcases hv with rfl | rfl <;> rfl)) ?_
 rw [hd]
 exact hk _ (setRow_at hg _) (setRow_grown w g _)
theorem dot_cells {V : World} {g : Nat} {d : Dot} (h : V.heap[g]? = some (dotC d)) : V.cell? ⟨g, 0, none⟩ = some (.int .i64 d.f0) ∧ V.cell? ⟨g, 1, none⟩ = some (.int .i64 d.f1) := ⟨(za4 h 0).trans rfl, (za4 h 1).trans rfl⟩
/-- What has come up where a node is built. -/
structure JN (W0 : World) (x : Node) (l17 l18 : Bool) (g : Nat) (V : World) : Prop where
 ord : l18 = true → l17 = true
 below : Below W0.heap.size W0 V
 bz : l17 = true → l18 = false → V.heap[g]? = some boxZ
 bx : l18 = true → V.heap[g]? = some (boxN x)
 ge : l17 = true → W0.heap.size ≤ g
/-- What has come up where it is put to the end, and becomes the parent. -/
structure JC (w : World) (B : Nat) (out : List Node) (x : Node) (p d : Dot) (gx gp gd : Nat) (vo : Value) (l0 l2 l3 l6 l7 : Bool) (g : Nat) (v2 : Value) (V : World) : Prop where
 ord3 : l3 = true → l2 = true
 ord6 : l6 = true → l3 = true ∧ l0 = true
 below : Below w.heap.size w V
 size : B ≤ V.heap.size
 r1 : l3 = false → RN V B vo out
 bx : l2 = true → l3 = false → V.heap[g]? = some (boxN x)
 r2 : l3 = true → RN V B v2 (out ++ [x])
 bn : V.heap[gx]? = some (boxN x)
 bd : V.heap[gd]? = some (dotC d)
 bp : l7 = false → V.heap[gp]? = some (dotC p)
 bq : l7 = true → V.heap[gp]? = some (dotC x.f0)
def ch9Inv (W0 : World) (al : Addr) (Ao : Option Addr) (m c1 k co gd gp : Nat) (last r : Int) (d p : Dot) (z0 z1 z2 z4 z6 z7 z8 z9 z11 z15 z16 z17 z18 z19 z20 z21 z22 z23 z24 z25 z26 z27 z28 z29 z30 z32 z33 z34 z35 z36 z37 z38 z39 z40 z41 z42 z43 z44 z45 z46 z47 z48 z49 z50 z51 z52 z53 z54 z55 z56 z57 z58 z59 z60 z61 z62 z63 z64 z65 z66 : Value) (L : Array Bool) (ac : Act) (V : World) : Prop := ∃ (l0 l1 l2 l3 l4 l5 l6 l7 l8 l9 l10 l11 l12 l13 l14 l15 l16 l17 l18 : Bool) (g : Nat), L = #[l0, l1, l2, l3, l4, l5, l6, l7, l8, l9, l10, l11, l12, l13, l14, l15, l16, l17, l18] ∧ ac = { tmps := #[z0, z1, z2, .slice (some al) m c1, z4, .pointer (some ⟨gd, 0, none⟩), z6, z7, z8, z9, .pointer (some ⟨gp, 0, none⟩), z11, .int .i64 last, .slice Ao k co, .int .i64 (k : Int), selv l17 (.pointer (some ⟨g, 0, none⟩)) (z15), z16, z17, z18, z19, z20, z21, z22, z23, z24, z25, z26, z27, z28, z29, z30, .int .i64 (k : Int), z32, z33, selv l0 (.pointer (some ⟨gd, 0, none⟩)) (z34), selv l1 (.int .i64 d.f0) (z35), selv l2 (.pointer (some ⟨gd, 1, none⟩)) (z36), selv l3 (.int .i64 d.f1) (z37), selv l4 (.int .i64 (k : Int)) (z38), selv l5 (.int .i64 (d.f1 + (k : Int))) (z39), selv l6 (vDot ⟨d.f0, d.f1 + (k : Int)⟩) (z40), selv l7 (vDot p) (z41), selv l8 (.int .i64 last) (z42), selv l9 (.int .i64 (last + 1)) (z43), selv l10 (.int .i64 (k : Int)) (z44), selv l11 (.int .i64 (last + 1 + (k : Int))) (z45), selv l12 (.slice (some al) m c1) (z46), selv l13 (.int .i64 (k : Int)) (z47), selv l14 (.pointer (some (al.add k))) (z48), selv l15 (.int .i32 r) (z49), selv l16 (vNode ⟨⟨d.f0, d.f1 + (k : Int)⟩, p, last + 1 + (k : Int), r⟩) (z50), z51, z52, z53, z54, z55, z56, z57, z58, z59, z60, z61, z62, z63, z64, z65, z66], defers := [] } ∧ za0 (JN W0 ⟨⟨d.f0, d.f1 + (k : Int)⟩, p, last + 1 + (k : Int), r⟩ l17 l18 g V)
def ch13Inv (W0 : World) (al : Addr) (Ao : Option Addr) (m c1 k co gd gp gx B : Nat) (last : Int) (d p : Dot) (x : Node) (out : List Node) (z0 z1 z2 z4 z6 z7 z8 z9 z11 z16 z17 z18 z19 z20 z21 z22 z23 z24 z25 z26 z27 z28 z29 z30 z32 z33 z34 z35 z36 z37 z38 z39 z40 z41 z42 z43 z44 z45 z46 z47 z48 z49 z50 z51 z52 z53 z54 z55 z56 z57 z58 z59 z60 z61 z62 z63 z64 z65 z66 : Value) (L : Array Bool) (ac : Act) (V : World) : Prop := ∃ (l0 l1 l2 l3 l4 l5 l6 l7 : Bool) (g : Nat) (v2 : Value), L = #[l0, l1, l2, l3, l4, l5, l6, l7] ∧ ac = { tmps := #[z0, z1, z2, .slice (some al) m c1, z4, .pointer (some ⟨gd, 0, none⟩), z6, z7, z8, z9, .pointer (some ⟨gp, 0, none⟩), z11, .int .i64 last, selv l6 (v2) (.slice Ao k co), .int .i64 (k : Int), .pointer (some ⟨gx, 0, none⟩), z16, z17, z18, z19, z20, z21, z22, z23, z24, z25, z26, z27, z28, z29, z30, .int .i64 (k : Int), z32, z33, z34, z35, z36, z37, z38, z39, z40, z41, z42, z43, z44, z45, z46, z47, z48, z49, z50, z51, z52, z53, z54, z55, z56, z57, z58, selv l0 (.slice Ao k co) (z59), selv l1 (vNode x) (z60), selv l2 (.slice (some ⟨g, 0, none⟩) 1 1) (z61), selv l3 (v2) (z62), selv l4 (.pointer (some ⟨gx, 0, none⟩)) (z63), selv l5 (vDot x.f0) (z64), z65, z66], defers := [] } ∧ za0 (JC W0 B out x p d gx gp gd (.slice Ao k co) l0 l2 l3 l6 l7 g v2 V)
set_option maxHeartbeats 4000000 in
set_option maxRecDepth 100000 in
theorem chain_call (A0 : Option Addr) (c0 : Nat) (l0 : List Node) (d : Dot) (a1 : Int) (A1 : Option Addr) (c1 : Nat) (rs : List Int) (w : World) (hr0 : Kd.C k53 w A0 l0.length l0) (hc0 : l0.length ≤ c0) (hr1 : Kd.C (Kd.int .i32) w A1 rs.length rs) (hc1 : rs.length ≤ c1)
  (hl : l0.length ≤ 400000) (hrl : rs.length ≤ 10000) (hs : zak l0 = true) (ha : 0 ≤ a1 ∧ a1 ≤ ((visOf l0).length : Int)) (hd : 0 ≤ d.f1 ∧ d.f1 + (rs.length : Int) ≤ 4294967296) (hla : 0 ≤ lastOf l0 ∧ lastOf l0 + (rs.length : Int) ≤ 4611686018427387904) :
  Calls Tryz.prog 53 #[.slice A0 l0.length c0, vDot d, .int .i64 a1, .slice A1 rs.length c1] w fun e w' => ∃ v0_ : Value, e = .returned (.tuple #[v0_, .int .i64 (chainR l0 d a1 rs).2]) ∧ Kd.R k53 53 w' w.heap.size (fun _ => True) v0_ (chainR l0 d a1 rs).1 ∧ Below w.heap.size w w' := by
 have HR := za0.mk hr0
 have HC := za0.mk hc0
 have HRR := za0.mk hr1
 have HL := za0.mk hl
 have HRL := za0.mk hrl
 have HS := za0.mk hs
 have HA := za0.mk ha
 have HD := za0.mk hd
 have HLA := za0.mk hla
 obtain ⟨n, Hn⟩ : ∃ n, za0 (l0.length = n) := ⟨_, ⟨rfl⟩⟩
 obtain ⟨m, Hm⟩ : ∃ m, za0 (rs.length = m) := ⟨_, ⟨rfl⟩⟩
 obtain ⟨last, Hla⟩ : ∃ t, za0 (lastOf l0 = t) := ⟨_, ⟨rfl⟩⟩
 obtain ⟨p0, Hp0⟩ : ∃ p, za0 (leftE l0 a1 = p) := ⟨_, ⟨rfl⟩⟩
 obtain ⟨ks, Hks⟩ : ∃ ks, za0 (l0.map (·.f0) = ks) := ⟨_, ⟨rfl⟩⟩
 have HIB : za0 (incB ks = true) := ⟨by rw [← Hks.out]; unfold zak at hs; rw [Bool.and_eq_true] at hs; exact hs.2⟩
 have HDC := za0.mk (zal w (dotC d))
 have HB := za0.mk (za2 (Below.refl _ w) (dotC d))
 have hcall := index_Left.calls 3 A0 c0 l0 a1 p0.f0 p0.f1 0 (w.alloc (dotC d)) (Kd.C_below hr0 HB.out) hc0 (by rw [left_is (by omega) hs ha.1 ha.2 (Nat.le_refl 3), Hp0.out])
 rw [Hn.out] at hcall
 rw [Hn.out, Hm.out]
 have HCALL := za0.mk hcall
 rw [Hm.out] at HRR HRL HD HLA
 rw [Hla.out] at HLA
 have hu := Tryz.underlying53
 have hu2 := Tryz.underlying25
 obtain ⟨gd, Hgd⟩ : ∃ g, za0 (w.heap.size = g) := ⟨_, ⟨rfl⟩⟩
 clear hcall hr0 hc0 hr1 hc1 hl hrl hs ha hd hla
 go_enter Tryz.func53, Tryz.ntmps53
 go_wp2_with fail
 refine HCALL.out.mono ?_
 rintro e V1 ⟨rfl, hb⟩
 have HDC := za0.mk (za7 HDC.out hb)
 have HLT := za0.mk (zan HDC.out)
 have HB := za0.mk (za5 HB.out hb)
 clear hb HCALL
 have HPC := za0.mk (zal V1 (dotC p0))
 have HBP := za0.mk (za2 (Below.refl _ V1) (dotC p0))
 have HDC := za0.mk (za7 HDC.out HBP.out)
 have HBB := za0.mk (za5 HB.out HBP.out)
 have hcall := edit_Latest.calls (n + 1) A0 c0 l0 last (V1.alloc (dotC p0)) (Kd.C_below HR.out HBB.out) HC.out (by rw [latest_is (by have := HL.out; omega) (by rw [Hn.out]; omega), if_pos HS.out, Hla.out])
 rw [Hn.out] at hcall
 have HCALL := za0.mk hcall
 clear hcall
 go_wp2_with fail
 refine HCALL.out.mono ?_
 rintro e V2 ⟨rfl, hb⟩
 have HDC := za0.mk (za7 HDC.out hb)
 have HPC := za0.mk (za7 HPC.out hb)
 have HGP : za0 (w.heap.size < V1.heap.size ∧ V1.heap.size < V2.heap.size) := ⟨HLT.out, zan HPC.out⟩
 have HB := za0.mk (za5 HBB.out hb)
 clear hb HCALL HBP HBB
 obtain ⟨gp, Hgp⟩ : ∃ g, za0 (V1.heap.size = g) := ⟨_, ⟨rfl⟩⟩
 rw [Hgp.out] at HPC HGP ⊢
 rw [Hgd.out] at HDC HGP ⊢
 obtain ⟨B, HBe⟩ : ∃ b, za0 (V2.heap.size = b) := ⟨_, ⟨rfl⟩⟩
 rw [HBe.out] at HGP
 have HWB : za0 (w.heap.size ≤ gp ∧ w.heap.size ≤ B) := ⟨by have := HGP.out; have := Hgd.out; omega⟩
 go_wp2_with fail
 go_loopw [13, 31] (fun s i wr => ∃ (k : Nat) (Ao : Option Addr) (co : Nat), s = .slice Ao k co ∧ i = .int .i64 k ∧ k ≤ m ∧ za0 (∀ j, j < k → (⟨d.f0, d.f1 + (j : Int)⟩ : Dot) ∉ ks) ∧ za0 (RN wr B (.slice Ao k co) ((List.range k).map (nodeE d p0 last rs))) ∧ za0 (wr.heap[gd]? = some (dotC d)) ∧ za0 (wr.heap[gp]? = some (dotC (parE d p0 k))) ∧ za0 (Below w.heap.size w wr) ∧ za0 (B ≤ wr.heap.size)) (fun _ i _ => m - (intOf i).toNat)
 case atStart => exact ⟨0, none, 0, rfl, rfl, Nat.zero_le _, ⟨fun j h => absurd h (Nat.not_lt_zero _)⟩, ⟨Kd.R_nil _ _ _ _ _⟩, HDC, HPC, HB, ⟨Nat.le_of_eq HBe.out.symm⟩⟩
 case round =>
  obtain ⟨k, Ao, co, rfl, rfl, hk, HNO, HO, HDC, HPC, HB, HSZ⟩ := hrel
  by_cases hlt : k < m
  ·
   obtain ⟨r, Hr⟩ : ∃ r, za0 (rs[k]? = some r) := ⟨_, ⟨List.getElem?_eq_getElem (by rw [Hm.out]; exact hlt)⟩⟩
   obtain ⟨p, Hp⟩ : ∃ p, za0 (parE d p0 k = p) := ⟨_, ⟨rfl⟩⟩
   rw [Hp.out] at HPC
   obtain ⟨al, e, _⟩ := rune_at HRR.out HB.out k r Hr.out
   subst e
   obtain ⟨x, Hx⟩ : ∃ x, za0 (x = (⟨⟨d.f0, d.f1 + (k : Int)⟩, p, last + 1 + (k : Int), r⟩ : Node)) := ⟨_, ⟨rfl⟩⟩
   have HXE : za0 (nodeE d p0 last rs k = x) := ⟨by rw [Hx.out]; unfold nodeE; rw [Hp.out, List.getD_eq_getElem?_getD, Hr.out]; rfl⟩
   have HKM : za0 (k < m ∧ m ≤ 10000) := ⟨hlt, HRL.out⟩
   have HW5 : za0 (wrap64 (d.f1 + (k : Int)) = d.f1 + (k : Int)) := ⟨by have := HKM.out; have := HD.out; unfold wrap64; omega⟩
   have HW9 : za0 (wrap64 (last + 1) = last + 1) := ⟨by have := HKM.out; have := HLA.out; unfold wrap64; omega⟩
   have HW11 : za0 (wrap64 (last + 1 + (k : Int)) = last + 1 + (k : Int)) := ⟨by have := HKM.out; have := HLA.out; unfold wrap64; omega⟩
   go_wp2_with fail
   refine AnyOrder.wp_region (by kernel_rfl) (ch9Inv wr.drew al Ao m c1 k co gd gp last r d p _ _ _ _ _ _ _ _ _ _ _ _ _ _ _ _ _ _ _ _ _ _ _ _ _ _ _ _ _ _ _ _ _ _ _ _ _ _ _ _ _ _ _ _ _ _ _ _ _ _ _ _ _ _ _ _ _ _ _ _) ⟨false, false, false, false, false, false, false, false, false, false, false, false, false, false, false, false, false, false, false, 0, rfl, rfl, ⟨⟨fun h => (by cases h), Below.refl _ _, fun h _ => (by cases h), fun h => (by cases h), fun h => (by cases h)⟩⟩⟩ ?step ?last
   case step =>
    rintro L ac V i ⟨l0, l1, l2, l3, l4, l5, l6, l7, l8, l9, l10, l11, l12, l13, l14, l15, l16, l17, l18, g, rfl, rfl, HF⟩ hi K hK
    rcases AnyOrder.up hi [0, 2, 4, 6, 8, 10, 12, 13, 16, 1, 3, 5, 7, 9, 11, 14, 15, 17, 18] rfl with rfl | rfl | rfl | rfl | rfl | rfl | rfl | rfl | rfl | rfl | rfl | rfl | rfl | rfl | rfl | rfl | rfl | rfl | rfl
    all_goals
     replace hi := AnyOrder.first hi rfl
     repeat (obtain ⟨ha, hi⟩ := hi; first | obtain rfl := ha | clear ha)
     clear hi
     try simp only [sel_true, selv_true] at hK ⊢
    iterate 9
     ·
      refine AnyOrder.wpOp_go rfl (by rfl) ?_
      go_wp2_with fail
      exact ⟨_, _, _, _, _, _, _, _, _, _, _, _, _, _, _, _, _, _, _, g, rfl, rfl, HF⟩
    iterate 2
     ·
      obtain ⟨q0, q1⟩ := dot_cells (za7 (zai HDC.out) HF.out.below)
      refine AnyOrder.wpOp_go rfl (by rfl) ?_
      go_wp2_with fail
      exact ⟨_, _, _, _, _, _, _, _, _, _, _, _, _, _, _, _, _, _, _, g, rfl, rfl, HF⟩
    ·
     refine AnyOrder.wpOp_go rfl (by rfl) ?_
     go_wp2_with fail
     rw [HW5.out]
     exact ⟨_, _, _, _, _, _, _, _, _, _, _, _, _, _, _, _, _, _, _, g, rfl, rfl, HF⟩
    ·
     obtain ⟨q0, q1⟩ := dot_cells (za7 (zai HPC.out) HF.out.below)
     refine AnyOrder.wpOp_go rfl (by rfl) ?_
     go_wp2_with fail
     exact ⟨_, _, _, _, _, _, _, _, _, _, _, _, _, _, _, _, _, _, _, g, rfl, rfl, HF⟩
    ·
     refine AnyOrder.wpOp_go rfl (by rfl) ?_
     go_wp2_with fail
     rw [HW9.out]
     exact ⟨_, _, _, _, _, _, _, _, _, _, _, _, _, _, _, _, _, _, _, g, rfl, rfl, HF⟩
    ·
     refine AnyOrder.wpOp_go rfl (by rfl) ?_
     go_wp2_with fail
     rw [HW11.out]
     exact ⟨_, _, _, _, _, _, _, _, _, _, _, _, _, _, _, _, _, _, _, g, rfl, rfl, HF⟩
    ·
     have hkm := HKM.out
     refine AnyOrder.wpOp_go rfl (by rfl) ?_
     go_wp2_with fail
     exact ⟨_, _, _, _, _, _, _, _, _, _, _, _, _, _, _, _, _, _, _, g, rfl, rfl, HF⟩
    ·
     obtain ⟨al', e, q0⟩ := rune_at HRR.out (za5 HB.out (za5 (za3 (Below.refl _ wr)) HF.out.below)) k r Hr.out
     cases e
     refine AnyOrder.wpOp_go rfl (by rfl) ?_
     go_wp2_with fail
     exact ⟨_, _, _, _, _, _, _, _, _, _, _, _, _, _, _, _, _, _, _, g, rfl, rfl, HF⟩
    ·
     obtain rfl : l18 = false := by cases l18 with | false => rfl | true => cases HF.out.ord rfl
     have hb1 := za2 (Below.refl _ V) boxZ
     refine AnyOrder.wpOp_go rfl (by rfl) ?_
     go_wp2_with fail
     exact ⟨_, _, _, _, _, _, _, _, _, _, _, _, _, _, _, _, _, _, _, V.heap.size, rfl, rfl, ⟨⟨fun h => (by cases h), za5 HF.out.below hb1, fun _ _ => zal _ _, fun h => (by cases h), fun _ => HF.out.below.size⟩⟩⟩
    ·
     refine AnyOrder.wpOp_go rfl (by rfl) ?_
     refine op_boxNode (.tmp 15) (.tmp 50) rfl rfl (HF.out.bz rfl rfl) ⟨⟨d.f0, d.f1 + (k : Int)⟩, p, last + 1 + (k : Int), r⟩ rfl rfl ?_
     intro W4 h1 h2
     exact hK _ _ ⟨_, _, _, _, _, _, _, _, _, _, _, _, _, _, _, _, _, _, _, g, rfl, rfl, ⟨⟨fun _ => rfl, HF.out.below.grown h2 HF.out.below.size (fun q e => by cases e; exact HF.out.ge rfl), fun _ h => (by cases h), fun _ => h1, HF.out.ge⟩⟩⟩
   case last =>
    rintro L ac V ⟨l0, l1, l2, l3, l4, l5, l6, l7, l8, l9, l10, l11, l12, l13, l14, l15, l16, l17, l18, g, rfl, rfl, HF⟩ hr
    obtain ⟨rfl, rfl, rfl, rfl, rfl, rfl, rfl, rfl, rfl, rfl, rfl, rfl, rfl, rfl, rfl, rfl, rfl, rfl, rfl, -⟩ := AnyOrder.alls rfl (by kernel_rfl) hr
    clear hr
    simp only [sel_true, selv_true]
    have HX : za0 (V.heap[g]? = some (boxN x)) := ⟨by rw [Hx.out]; exact HF.out.bx rfl⟩
    have hbb := za5 (za3 (Below.refl _ wr)) HF.out.below
    have HB := za0.mk (za5 HB.out hbb)
    have HNE : za0 (∀ q, (Value.slice Ao k co).ownBlock = some q → q ≠ g) := ⟨fun q hq => Nat.ne_of_lt (Nat.lt_of_lt_of_le (RN.lt HO.out hq) (HF.out.ge rfl))⟩
    have HGX : za0 (B ≤ g) := ⟨Nat.le_trans HSZ.out (HF.out.ge rfl)⟩
    have HO := za0.mk (RN.below' HO.out hbb)
    have HDC := za0.mk (za7 HDC.out hbb)
    have HPC := za0.mk (za7 HPC.out hbb)
    have HSZ := za0.mk (Nat.le_trans HSZ.out hbb.size)
    have HXD : za0 (x.f0 = ⟨d.f0, d.f1 + (k : Int)⟩) := ⟨by rw [Hx.out]⟩
    clear HF hbb Hx HW5 HW9 HW11
    generalize g = gx at *
    have HBS := bsearchS_call l0 A0 n c0 x.f0 V ks Hks.out HIB.out Hn.out (by have := HL.out; have := Hn.out; omega) (by have := Kd.C_below HR.out HB.out; rwa [Hn.out] at this)
    obtain ⟨b, Hb⟩ : ∃ b, za0 (hasK ks x.f0 = b) := ⟨_, ⟨rfl⟩⟩
    rw [Hb.out] at HBS
    have HBS := za0.mk HBS
    obtain ⟨x0, x1, x2, x3, x4, x5⟩ := box_six HX.out
    go_wp2_with fail
    clear x0 x1 x2 x3 x4 x5
    refine HBS.out.mono ?_
    rintro e V4 ⟨rfl, hb⟩
    have HX := za0.mk (za7 HX.out hb)
    have HDC := za0.mk (za7 HDC.out hb)
    have HPC := za0.mk (za7 HPC.out hb)
    have HB := za0.mk (za5 HB.out hb)
    have HO := za0.mk (RN.below' HO.out hb)
    have HSZ := za0.mk (Nat.le_trans HSZ.out hb.size)
    clear hb HBS
    cases b with
    | true =>
     have HRES : za0 (chainR l0 d a1 rs = ([], 11)) := ⟨by
      unfold chainR
      rw [if_pos (busy_yes (i := k) (by rw [Hm.out]; exact hlt) (by rw [← HXD.out, Hks.out]; exact (hasK_iff HIB.out _).1 Hb.out))]⟩
     go_wp2
     go_ret2
     rw [HRES.out]
     exact ⟨_, rfl, Kd.R_nil _ _ _ _ _, HB.out⟩
    | false =>
     have HNO : za0 (∀ j, j < k + 1 → (⟨d.f0, d.f1 + (j : Int)⟩ : Dot) ∉ ks) := ⟨fun j hj => by
      rcases Nat.lt_succ_iff_lt_or_eq.1 hj with h | h
      ·
       exact HNO.out j h
      ·
       subst h
       rw [← HXD.out]
       intro h
       have := (hasK_iff HIB.out _).2 h
       rw [Hb.out] at this
       cases this⟩
     obtain ⟨out, Hout⟩ : ∃ out, za0 ((List.range k).map (nodeE d p0 last rs) = out) := ⟨_, ⟨rfl⟩⟩
     have HOL : za0 (out.length = k) := ⟨by rw [← Hout.out, List.length_map, List.length_range]⟩
     have HOS : za0 ((List.range (k + 1)).map (nodeE d p0 last rs) = out ++ [x]) := ⟨by rw [List.range_succ, List.map_append, Hout.out, List.map_cons, List.map_nil, HXE.out]⟩
     have HPS : za0 (parE d p0 (k + 1) = x.f0) := ⟨HXD.out.symm⟩
     rw [Hout.out] at HO
     go_wp2_with fail
     refine AnyOrder.wp_region (by kernel_rfl) (ch13Inv w al Ao m c1 k co gd gp gx B last d p x out _ _ _ _ _ _ _ _ _ _ _ _ _ _ _ _ _ _ _ _ _ _ _ _ _ _ _ _ _ _ _ _ _ _ _ _ _ _ _ _ _ _ _ _ _ _ _ _ _ _ _ _ _ _ _ _ _ _ _) ⟨false, false, false, false, false, false, false, false, 0, undef, rfl, rfl, ⟨⟨fun h => (by cases h), fun h => (by cases h), za5 HB.out (za3 (Below.refl _ V4)), Nat.le_trans HSZ.out (za3 (Below.refl V4.heap.size V4)).size, fun _ => RN.below' HO.out (za3 (Below.refl _ V4)), fun h _ => (by cases h), fun h => (by cases h), zai HX.out, zai HDC.out, fun _ => zai HPC.out, fun h => (by cases h)⟩⟩⟩ ?step ?last
     case step =>
      rintro L ac V i ⟨l0, l1, l2, l3, l4, l5, l6, l7, g, v2, rfl, rfl, HF⟩ hi K hK
      rcases AnyOrder.up hi [0, 1, 5, 2, 3, 4, 6, 7] rfl with rfl | rfl | rfl | rfl | rfl | rfl | rfl | rfl
      all_goals
       replace hi := AnyOrder.first hi rfl
       repeat (obtain ⟨ha, hi⟩ := hi; first | obtain rfl := ha | clear ha)
       clear hi
       try simp only [sel_true, selv_true] at hK ⊢
      ·
       obtain rfl : l6 = false := by cases l6 with | false => rfl | true => cases (HF.out.ord6 rfl).2
       (try simp only [selv_false] at hK ⊢)
       refine AnyOrder.wpOp_go rfl (by rfl) ?_
       go_wp2_with fail
       exact ⟨_, _, _, _, _, _, _, _, g, v2, rfl, rfl, ⟨⟨HF.out.ord3, fun h => (by cases h), HF.out.below, HF.out.size, HF.out.r1, HF.out.bx, HF.out.r2, HF.out.bn, HF.out.bd, HF.out.bp, HF.out.bq⟩⟩⟩
      iterate 2
       ·
        obtain ⟨q0, q1, q2, q3, q4, q5⟩ := box_six HF.out.bn
        refine AnyOrder.wpOp_go rfl (by rfl) ?_
        go_wp2_with fail
        exact ⟨_, _, _, _, _, _, _, _, g, v2, rfl, rfl, HF⟩
      ·
       obtain rfl : l3 = false := by cases l3 with | false => rfl | true => cases HF.out.ord3 rfl
       obtain rfl : l6 = false := by cases l6 with | false => rfl | true => cases (HF.out.ord6 rfl).1
       have hb1 := za2 (Below.refl _ V) (boxN x)
       (try simp only [selv_false] at hK ⊢)
       refine AnyOrder.wpOp_go rfl (by rfl) ?_
       go_wp2_with fail
       exact ⟨_, _, _, _, _, _, _, _, V.heap.size, v2, rfl, rfl, ⟨⟨fun h => (by cases h), fun h => (by cases h), za5 HF.out.below hb1, Nat.le_trans HF.out.size hb1.size, fun _ => RN.below' (HF.out.r1 rfl) hb1, fun _ _ => zal _ _, fun h => (by cases h), za7 HF.out.bn hb1, za7 HF.out.bd hb1, fun h => za7 (HF.out.bp h) hb1, fun h => za7 (HF.out.bq h) hb1⟩⟩⟩
      ·
       obtain rfl : l6 = false := by cases l6 with | false => rfl | true => cases (HF.out.ord6 rfl).1
       have hr1 := HF.out.r1 rfl
       (try simp only [selv_false] at hK ⊢)
       refine AnyOrder.wpOp_go rfl (by rfl) ?_
       refine op_append_rows Tryz.underlying23 B rfl (.tmp 59) (.tmp 61) rfl (.slice Ao k co) out [x] (some ⟨g, 0, none⟩) 1 1 rfl rfl hr1 (boxN_C (HF.out.bx rfl rfl)) HF.out.size (by have := HOL.out; have := HKM.out; omega) ?_
       intro v3 W3 h1 h2 _
       have far : ∀ {q : Nat} {o : Obj}, V.heap[q]? = some o → ((Value.slice Ao k co).ownBlock = some q → False) → W3.heap[q]? = some o := fun hq hn => (h2.block _ (zan hq) (fun e => hn e.symm)).trans hq
       exact hK _ _ ⟨_, _, _, _, _, _, _, _, g, v3, rfl, rfl, ⟨⟨fun _ => rfl, fun h => (by cases h), HF.out.below.grown h2 HF.out.below.size (fun q e => Nat.le_trans HWB.out.2 (RN.block hr1 e).1), Nat.le_trans HF.out.size h2.size, fun h => (by cases h), fun _ => fun h => (by cases h), fun _ => h1, far HF.out.bn (fun e => HNE.out _ e rfl), far HF.out.bd (fun e => absurd (RN.block hr1 e).1 (by have := HGP.out; omega)), fun h => far (HF.out.bp h) (fun e => absurd (RN.block hr1 e).1 (by have := HGP.out; omega)), fun h => far (HF.out.bq h) (fun e => absurd (RN.block hr1 e).1 (by have := HGP.out; omega))⟩⟩⟩
      ·
       refine AnyOrder.wpOp_go rfl (by rfl) ?_
       go_wp2_with fail
       exact ⟨_, _, _, _, _, _, _, _, g, v2, rfl, rfl, HF⟩
      ·
       refine AnyOrder.wpOp_go rfl (by rfl) ?_
       go_wp2_with fail
       exact ⟨_, _, _, _, _, _, _, _, g, v2, rfl, rfl, ⟨⟨HF.out.ord3, fun _ => ⟨rfl, rfl⟩, HF.out.below, HF.out.size, HF.out.r1, HF.out.bx, HF.out.r2, HF.out.bn, HF.out.bd, HF.out.bp, HF.out.bq⟩⟩⟩
      ·
       refine AnyOrder.wpOp_go rfl (by rfl) ?_
       refine op_boxDot (.tmp 10) (.tmp 64) rfl rfl (HF.out.bp rfl) x.f0 rfl rfl ?_
       intro W4 h1 h2
       have far : ∀ {q : Nat} {o : Obj}, V.heap[q]? = some o → q ≠ gp → W4.heap[q]? = some o := fun hq hn => (h2.block _ (zan hq) (fun e => hn (Option.some.inj e))).trans hq
       exact hK _ _ ⟨_, _, _, _, _, _, _, _, g, v2, rfl, rfl, ⟨⟨HF.out.ord3, HF.out.ord6, HF.out.below.grown h2 HF.out.below.size (fun q e => by cases e; exact HWB.out.1), Nat.le_trans HF.out.size h2.size, fun h => (by cases h), fun _ => fun h => (by cases h), fun _ => RN.keep (HF.out.r2 rfl) (fun q hq => h2.block q (RN.lt (HF.out.r2 rfl) hq) (fun e => absurd (RN.block (HF.out.r2 rfl) hq).1 (by have := HGP.out; have := Option.some.inj e; omega))), far HF.out.bn (by have := HGX.out; have := HGP.out; omega), far HF.out.bd (by have := HGP.out; omega), fun h => (by cases h), fun _ => h1⟩⟩⟩
     case last =>
      rintro L ac V ⟨l0, l1, l2, l3, l4, l5, l6, l7, g, v2, rfl, rfl, HF⟩ hr
      obtain ⟨rfl, rfl, rfl, rfl, rfl, rfl, rfl, rfl, -⟩ := AnyOrder.alls rfl (by kernel_rfl) hr
      clear hr
      simp only [sel_true, selv_true]
      have HB := za0.mk HF.out.below
      have HO := za0.mk (HF.out.r2 rfl)
      have HDC := za0.mk HF.out.bd
      have HPC : za0 (V.heap[gp]? = some (dotC (parE d p0 (k + 1)))) := ⟨by rw [HPS.out]; exact HF.out.bq rfl⟩
      have HSZ := za0.mk HF.out.size
      obtain ⟨A3, c3, rfl⟩ := RN.slice HO.out
      have HL3 : za0 ((out ++ [x]).length = k + 1) := ⟨by rw [List.length_append, HOL.out]; rfl⟩
      rw [HL3.out] at HO ⊢
      rw [← HOS.out] at HO
      have hkm := HKM.out
      clear HF
      go_wp2
      go_roundw
      case rel => exact ⟨k + 1, A3, c3, rfl, by go_num, by omega, HNO, HO, HDC, HPC, HB, HSZ⟩
      case measure => simp [intOf]; omega
  ·
   obtain rfl : k = m := by omega
   have HRES : za0 (chainR l0 d a1 rs = ((List.range k).map (nodeE d p0 last rs), 0)) := ⟨by
    unfold chainR
    rw [Hm.out, if_neg (by rw [busy_no (by rw [Hks.out]; exact HNO.out)]; decide), Hp0.out, Hla.out]
    unfold chainE
    rw [Hm.out]⟩
   go_wp2
   go_ret2
   rw [HRES.out]
   exact ⟨_, rfl, Kd.R_lower HO.out HWB.out.2, HB.out⟩
end
end Go.Proofs.YtmbndijbpgobeaaGreat.PWalk
end
section
namespace Go.Proofs.YtmbndijbpgobeaaGreat.PWalk
open Go.RowKit Go.Proofs.YtmbndijbpgobeaaGreatW.PrintWords Go.Proofs.YtmbndijbpgobeaaGreatW.PrintLast Go.Proofs.YtmbndijbpgobeaaGreatW.PrintMore
set_option linter.unusedVariables false
set_option linter.unusedSimpArgs false
open Go.Shelf
attribute [local go_sem] Oper.semAt_some
set_option maxHeartbeats 1000000 in
set_option maxRecDepth 100000 in
section
theorem setD_call (A0 : Option Addr) (n c0 : Nat) (xs : List Dot) (w : World) (hn : xs.length = n) (hr0 : Kd.C k25 w A0 n xs) (hl : n ≤ 1000000) (hnd : xs.Nodup) :
  Calls Tryz.prog 45 #[.slice A0 n c0] w fun e w' => ∃ v ys, e = .returned v ∧ RD w' w.heap.size v ys ∧ incB ys = true ∧ ys.Perm xs ∧ Below w.heap.size w w' := by
 have HCL := CloneDot.calls A0 c0 xs w (by rw [hn]; exact hr0) (by rw [hn]; exact hl)
 rw [hn] at HCL
 have HCL := za0.mk HCL
 have HND := za0.mk hnd
 have Hn := za0.mk hn
 have HL := za0.mk hl
 clear hr0 hn hnd hl
 go_enter Tryz.func45, Tryz.ntmps45
 go_wp2_with fail
 refine HCL.out.mono ?_
 rintro e w1 ⟨v, rfl, hv, hb⟩
 obtain ⟨A1, c1, rfl⟩ := RD.slice hv
 rw [Hn.out] at hv ⊢
 have HSO := za0.mk (sortD_call w.heap.size n (.slice A1 n c1) xs w1 hv (by have h1 := Hn.out; have h2 := HL.out; omega))
 have HV := za0.mk hv
 have HB := za0.mk hb
 clear hv hb HCL
 go_wp2_with fail
 refine HSO.out.mono ?_
 rintro e w2 ⟨rfl, ys, hys, hperm, hpw, ht⟩
 have hb2 := ht.on HB.out (fun i e => (RD.block HV.out e).1)
 have hinc := adjacent_inc (hperm.nodup_iff.2 HND.out) hpw
 have hyl : ys.length = n := hperm.length_eq.trans Hn.out
 have HC : Kd.C k25 w2 A1 n ys := by
  obtain ⟨A', c', e, _, hC⟩ := Kd.R_reads hys
  cases e
  rw [hyl] at hC
  exact hC
 have HCO := za0.mk (compactD_call A1 n c1 ys w2 hyl HC HL.out hinc)
 have HYS := za0.mk hys
 have HINC := za0.mk hinc
 have HP := za0.mk hperm
 have HB2 := za0.mk hb2
 clear hys hperm hpw ht hb2 hinc hyl HC HSO
 go_wp2_with fail
 refine HCO.out.mono ?_
 rintro e w3 ⟨rfl, hb⟩
 have HB3 := za0.mk hb
 clear hb
 go_wp2
 go_ret
 exact ⟨_, ys, rfl, RD.below' HYS.out HB3.out, HINC.out, HP.out, za5 HB2.out HB3.out⟩
end
end Go.Proofs.YtmbndijbpgobeaaGreat.PWalk
end
section
namespace Go.Proofs.YtmbndijbpgobeaaGreat.PWalk
open Go.RowKit Go.Proofs.YtmbndijbpgobeaaGreatW.PrintWords Go.Proofs.YtmbndijbpgobeaaGreatW.PrintLast Go.Proofs.YtmbndijbpgobeaaGreatW.PrintMore
set_option linter.unusedVariables false
set_option linter.unusedSimpArgs false
open Go.Shelf
attribute [local go_sem] Oper.semAt_some
section
theorem intRow_C {W : World} {g t : Nat} {ik : IntKind} (xs : List Int) (cs : Array Value) (hcs : cs.toList = xs.map (Value.int ik)) (h : W.heap[g]? = some (.cells cs t (0, 0))) (hn : xs.length ≤ 1000000) : Kd.C (Kd.int ik) W (some ⟨g, 0, none⟩) xs.length xs := by
 refine ⟨rfl, by omega, fun _ => ⟨_, rfl, fun i y hi => ⟨[.int ik y], rfl, rfl, fun j u hu => ?_⟩⟩⟩
 have hj : j = 0 := by
  cases j with
  | zero => rfl
  | succ j => simp at hu
 subst hj
 simp at hu
 subst hu
 rw [show (⟨g, 0, none⟩ : Addr).add (i * (Kd.int ik).sz + 0) = ⟨g, i, none⟩ by rw [add_lit]; simp [Kd.int, Kd.scalar]]
 rw [za4 h, ← Array.getElem?_toList, hcs, List.getElem?_map, hi]
 rfl
theorem del_filter (l : List Node) (ds : List Dot) : (l.map (deadD ds)).filter (fun x => decide (x.f0 ∈ ds)) = (l.filter fun x => decide (x.f0 ∈ ds)).map deadN := by
 induction l with
 | nil => rfl
 | cons x l ih =>
  rw [List.map_cons, List.filter_cons, List.filter_cons, deadD_dot, ih]
  by_cases h : x.f0 ∈ ds
  ·
   rw [if_pos (decide_eq_true h), if_pos (decide_eq_true h), List.map_cons]
   unfold deadD
   rw [if_pos h]
  ·
   rw [if_neg (by simpa using h), if_neg (by simpa using h)]
theorem span_zero {l : List Node} {a n : Int} (h : spanE l a n = 0) : faultsOf l = [] ∧ 0 ≤ a ∧ 0 ≤ n ∧ a ≤ ((visOf l).length : Int) ∧ n ≤ ((visOf l).length : Int) - a := by
 unfold spanE at h
 by_cases h1 : faultsOf l = []
 ·
  rw [if_pos h1] at h
  by_cases h2 : a < 0 ∨ n < 0 ∨ a > ((visOf l).length : Int) ∨ n > ((visOf l).length : Int) - a
  ·
   rw [if_pos h2] at h; cases h
  ·
   exact ⟨h1, by omega, by omega, by omega, by omega⟩
 ·
  rw [if_neg h1] at h; cases h
theorem first_del (l : List Node) (a n er : Int) (h : firstE [spanE l a n, if decide (n > 10000) = true then 5 else 0] = er) : (er ≠ 0 → delE l a n = ([], er)) ∧ (er = 0 → spanE l a n = 0 ∧ ¬ n > 10000) := by
 subst h
 unfold delE
 simp only [firstE]
 by_cases h1 : spanE l a n = 0
 ·
  rw [if_pos h1]
  by_cases h2 : n > 10000
  ·
   rw [if_pos (decide_eq_true h2), if_neg (by decide), if_neg (by rw [h1]; simp), if_pos h2]
   exact ⟨fun _ => rfl, fun h => by cases h⟩
  ·
   rw [if_neg (show ¬ decide (n > 10000) = true by simpa using h2), if_pos rfl]
   exact ⟨fun h => absurd rfl h, fun _ => ⟨h1, h2⟩⟩
 ·
  rw [if_neg h1, if_pos h1]
  exact ⟨fun _ => rfl, fun h => absurd h h1⟩
theorem del_none {l : List Node} {a n : Int} (h : spanE l a n = 0) (h2 : n = 0) : delE l a n = ([], 0) := by
 subst h2
 unfold delE
 rw [if_neg (by rw [h]; simp), if_neg (by decide)]
 have : cutV l a 0 = [] := by
  unfold cutV
  rw [Int.add_zero, List.drop_eq_nil_iff, List.length_take]
  omega
 rw [this]
 simp
theorem del_some {l : List Node} {a n : Int} (h : spanE l a n = 0) (h2 : ¬ n > 10000) : delE l a n = ((l.filter fun x => decide (x.f0 ∈ (cutV l a n).map (·.f0))).map deadN, 0) := by
 unfold delE
 rw [if_neg (by rw [h]; simp), if_neg h2]
theorem filter_take_succ {l : List Node} {k : Nat} {x : Node} (p : Node → Bool) (h : l[k]? = some x) : (l.take (k + 1)).filter p = (l.take k).filter p ++ if p x = true then [x] else [] := by
 obtain ⟨hk, e⟩ := List.getElem?_eq_some_iff.1 h
 rw [List.take_succ_eq_append_getElem hk, List.filter_append, e, List.filter_cons]
 split <;> simp_all
set_option maxHeartbeats 4000000 in
set_option maxRecDepth 100000 in
theorem edit_Delete.calls (A0 : Option Addr) (c0 : Nat) (l0 : List Node) (a1 a2 : Int) (r1 : List Node) (r2 : Int) (w : World) (hr0 : Kd.C k53 w A0 l0.length l0) (hc0 : l0.length ≤ c0) (h : edit_Delete.f l0 a1 a2 = some (r1, r2)) :
  Calls Tryz.prog 19 #[.slice A0 l0.length c0, .int .i64 a1, .int .i64 a2] w fun e w' => ∃ v0_ : Value, e = .returned (.tuple #[v0_, .int .i64 r2]) ∧ Kd.R k53 53 w' w.heap.size (fun _ => True) v0_ r1 ∧ Below w.heap.size w w' := by
 unfold edit_Delete.f at h
 by_cases hl : l0.length ≤ 400000
 rotate_left
 ·
  rw [if_neg hl] at h; cases h
 rw [if_pos hl] at h
 have HRES := za0.mk (Option.some.inj h)
 have HL := za0.mk hl
 have HR := za0.mk hr0
 have HC := za0.mk hc0
 obtain ⟨n, Hn⟩ : ∃ n, za0 (l0.length = n) := ⟨_, ⟨rfl⟩⟩
 obtain ⟨sp, Hsp⟩ : ∃ s, za0 (spanE l0 a1 a2 = s) := ⟨_, ⟨rfl⟩⟩
 obtain ⟨bg, Hbg⟩ : ∃ b, za0 (decide (a2 > 10000) = b) := ⟨_, ⟨rfl⟩⟩
 obtain ⟨wl, Hwl⟩ : ∃ q : Int, za0 ((if bg = true then 5 else 0) = q) := ⟨_, ⟨rfl⟩⟩
 obtain ⟨er, Her⟩ : ∃ q : Int, za0 (firstE [sp, wl] = q) := ⟨_, ⟨rfl⟩⟩
 have HF := za0.mk (first_del l0 a1 a2 er (by rw [Hsp.out, Hbg.out, Hwl.out]; exact Her.out))
 have hcall := edit_span.calls 3 A0 c0 l0 a1 a2 sp w hr0 hc0 (by rw [span_is (by omega) a1 a2 (Nat.le_refl 3), Hsp.out])
 have hu := Tryz.underlying53
 have hu2 := Tryz.underlying25
 rw [Hn.out] at hcall ⊢
 have HCALL := za0.mk hcall
 have HRN : za0 (Kd.C k53 w A0 n l0) := ⟨by have := HR.out; rwa [Hn.out] at this⟩
 clear hcall h hl hr0 hc0
 go_enter Tryz.func19, Tryz.ntmps19
 go_wp2_with fail
 refine HCALL.out.mono ?_
 rintro e V1 ⟨rfl, hb⟩
 have HB := za0.mk hb
 have hb1 : decide (a2 > 10000) = bg := Hbg.out
 have hb2 : decide (10000 < a2) = bg := Hbg.out
 clear hb HCALL
 go_wp2_with fail
 refine (edit_when.calls bg 5 wl V1 (by rw [ewhen_is, Hwl.out])).mono ?_
 rintro e V2 ⟨rfl, hd⟩
 have HB := za0.mk (za5 HB.out (Gr.drawn hd).below)
 clear hb1 hb2 hd
 go_wp2_with fail
 refine (edit_first.calls 3 _ 2 [sp, wl] er _ (intRow_C [sp, wl] _ rfl (zal _ _) (by simp)) (Nat.le_refl _) (by rw [efirst_is _ (by simp) (by simp), Her.out])).mono ?_
 rintro e V3 ⟨rfl, hd⟩
 have HB := za0.mk (za5 HB.out (za5 (za2 (Below.refl _ V2) _) (Gr.drawn hd).below))
 clear hd
 by_cases he : er = 0
 rotate_left
 ·
  have hne : (er == 0) = false := beq_eq_false_iff_ne.2 he
  have HE := za0.mk (HF.out.1 he)
  clear he
  go_wp2
  go_ret2
  have h := HRES.out
  rw [HE.out] at h
  cases h
  exact ⟨_, rfl, Kd.R_nil _ _ _ _ _, HB.out⟩
 subst he
 have HZ := za0.mk (HF.out.2 rfl)
 have HS := za0.mk (span_zero HZ.out.1)
 have HST := za0.mk (well_store HS.out.1)
 have HVL : za0 ((visOf l0).length ≤ 400000) := ⟨Nat.le_trans (vis_len HST.out) HL.out⟩
 have HW : za0 (wrap64 (a1 + a2) = a1 + a2) := ⟨by have := HS.out; have := HVL.out; unfold wrap64; omega⟩
 obtain ⟨ds, Hds⟩ : ∃ ds, za0 ((cutV l0 a1 a2).map (·.f0) = ds) := ⟨_, ⟨rfl⟩⟩
 obtain ⟨m, Hm⟩ : ∃ m, za0 (ds.length = m) := ⟨_, ⟨rfl⟩⟩
 have HML : za0 (m ≤ 400000) := ⟨by rw [← Hm.out, ← Hds.out, List.length_map]; exact Nat.le_trans (cut_sub l0 a1 a2).length_le HVL.out⟩
 have hcall := index_Dots.calls A0 c0 l0 a1 (a1 + a2) ds 0 V3 (Kd.C_below HR.out HB.out) HC.out (by
  unfold index_Dots.f
  rw [if_pos (by have := HL.out; omega), if_pos HST.out, if_neg (by have := HS.out; omega), ← Hds.out]
  rfl)
 rw [Hn.out] at hcall
 have HCALL := za0.mk hcall
 clear hcall
 go_wp2_with fail
 rw [HW.out]
 refine HCALL.out.mono ?_
 rintro e V4 ⟨v4, rfl, hr4, hb⟩
 have HB := za0.mk (za5 HB.out hb)
 obtain ⟨A4, c4, rfl⟩ := RD.slice hr4
 have HD := za0.mk (Kd.R_reads' hr4).2
 clear hb HCALL hr4
 rw [Hm.out] at HD ⊢
 by_cases h0 : a2 = 0
 ·
  have HE := za0.mk (del_none HZ.out.1 h0)
  have hg : (a2 == 0) = true := beq_iff_eq.2 h0
  clear h0
  go_wp2
  go_ret2
  have h := HRES.out
  rw [HE.out] at h
  cases h
  exact ⟨_, rfl, Kd.R_nil _ _ _ _ _, HB.out⟩
 have hg : (a2 == 0) = false := beq_eq_false_iff_ne.2 h0
 have HDE := za0.mk (del_some HZ.out.1 (by have := HZ.out.2; omega))
 rw [Hds.out, ← del_filter] at HDE
 clear h0
 obtain ⟨M, HM⟩ : ∃ M, za0 (l0.map (deadD ds) = M) := ⟨_, ⟨rfl⟩⟩
 have HMn : za0 (M.length = n) := ⟨by rw [← HM.out, List.length_map, Hn.out]⟩
 rw [HM.out] at HDE
 have hcall := store_Kill.calls A0 c0 l0 A4 c4 ds M 0 V4 (Kd.C_below HR.out HB.out) HC.out (by rw [Hm.out]; exact HD.out.2) (by rw [Hm.out]; exact HD.out.1) (by rw [← Hds.out, kill_cut (by have := HL.out; omega) HST.out, Hds.out, HM.out])
 rw [Hn.out, Hm.out] at hcall
 have HCALL := za0.mk hcall
 clear hcall
 go_wp2_with fail
 clear hg
 refine HCALL.out.mono ?_
 rintro e V5 ⟨v5, rfl, hr5, hb⟩
 have HB := za0.mk (za5 HB.out hb)
 have HD := za0.mk (show m ≤ c4 ∧ Kd.C k25 V5 A4 m ds from ⟨HD.out.1, Kd.C_below HD.out.2 hb⟩)
 obtain ⟨A5, c5, rfl⟩ := Kd.R_slice hr5
 have HK := za0.mk (Kd.R_reads' hr5).2
 clear hb HCALL hr5
 rw [HMn.out] at HK ⊢
 have HSC := za0.mk (setD_call A4 m c4 ds V5 Hm.out HD.out.2 (by have := HML.out; omega) (by rw [← Hds.out]; exact cut_nodup HST.out a1 a2))
 go_wp2_with fail
 refine HSC.out.mono ?_
 rintro e V6 ⟨v6, ys, rfl, hr6, hi6, hp6, hb⟩
 have HB := za0.mk (za5 HB.out hb)
 have HK := za0.mk (show n ≤ c5 ∧ Kd.C k53 V6 A5 n M from ⟨HK.out.1, Kd.C_below HK.out.2 hb⟩)
 obtain ⟨A6, c6, rfl⟩ := RD.slice hr6
 have HYL : za0 (ys.length = m) := ⟨by rw [hp6.length_eq, Hm.out]⟩
 have HYI := za0.mk hi6
 have HYP := za0.mk hp6
 rw [HYL.out] at hr6 ⊢
 have HY := za0.mk hr6
 clear hb HSC HD hr6 hi6 hp6
 go_wp2_with fail
 go_loopw [12, 58] (fun s i wr => ∃ (k : Nat) (Ao : Option Addr) (no co : Nat), s = .slice Ao no co ∧ i = .int .i64 k ∧ k ≤ n ∧ za0 (RN wr V6.heap.size (.slice Ao no co) ((M.take k).filter fun x => decide (x.f0 ∈ ds))) ∧ za0 (Below V6.heap.size V6 wr)) (fun _ i _ => n - (intOf i).toNat)
 case atStart => exact ⟨0, none, 0, 0, rfl, rfl, Nat.zero_le _, ⟨Kd.R_nil _ _ _ _ _⟩, ⟨Below.refl _ _⟩⟩
 case round =>
  obtain ⟨k, Ao, no, co, rfl, rfl, hk, HO, HBB⟩ := hrel
  have HN4 : za0 (n ≤ 400000) := ⟨by rw [← Hn.out]; exact HL.out⟩
  by_cases hlt : k < n
  ·
   obtain ⟨x, Hx⟩ : ∃ x, za0 (M[k]? = some x) := ⟨_, ⟨List.getElem?_eq_getElem (by rw [HMn.out]; exact hlt)⟩⟩
   have HST := za0.mk (filter_take_succ (fun x => decide (x.f0 ∈ ds)) Hx.out)
   obtain ⟨ad, e, h0, h1, h2, h3, h4, h5⟩ := node_at HK.out.2 HBB.out k x Hx.out
   subst e
   have HX := za0.mk (zal wr (boxN x))
   have HBX := za0.mk (za2 (Below.refl _ wr) (boxN x))
   have HNO : za0 (no ≤ 400000) := ⟨by
    have h1 := (RN.C HO.out).1
    have h2 := List.length_filter_le (fun x : Node => decide (x.f0 ∈ ds)) (M.take k)
    rw [List.length_take] at h2
    have h3 := HN4.out
    omega⟩
   have HEN := za0.mk (EntsD.of (RD.below' HY.out (za5 HBB.out HBX.out)) (by rw [HYL.out]; have := HML.out; omega))
   have HSR := za0.mk (bsearchD_call ys A6 m c6 x.f0 (wr.alloc (boxN x)) HYI.out HEN.out)
   obtain ⟨b, Hb⟩ : ∃ b, za0 (decide (x.f0 ∈ ds) = b) := ⟨_, ⟨rfl⟩⟩
   have HHK : za0 (hasK ys x.f0 = b) := ⟨by
    rw [← Hb.out, Bool.eq_iff_iff, hasK_iff HYI.out, HYP.out.mem_iff, decide_eq_true_eq]⟩
   rw [HHK.out] at HSR
   go_wp2_with fail
   clear h0 h1 h2 h3 h4 h5
   refine HSR.out.mono ?_
   rintro e W2 ⟨rfl, hb⟩
   have HX := za0.mk (za7 HX.out hb)
   have HBX := za0.mk (za5 HBX.out hb)
   have HBB := za0.mk (za5 HBB.out HBX.out)
   have HO := za0.mk (RN.below' HO.out HBX.out)
   clear hb HSR HEN
   cases b with
   | false =>
    have HO : za0 (RN W2 V6.heap.size (.slice Ao no co) ((M.take (k + 1)).filter fun x => decide (x.f0 ∈ ds))) := ⟨by rw [HST.out, Hb.out]; simpa using HO.out⟩
    have hn4 := HN4.out
    go_wp2
    go_roundw
    case rel => exact ⟨k + 1, Ao, no, co, rfl, by go_num, by omega, HO, HBB⟩
    case measure => simp [intOf]; omega
   | true =>
    obtain ⟨x0, x1, x2, x3, x4, x5⟩ := box_cells HX.out
    have HBA := za0.mk (za2 (Below.refl _ W2) (boxN x))
    have HXA := za0.mk (zal W2 (boxN x))
    have hn4 := HN4.out
    go_wp2_with (at_builtin; refine app_rows Tryz.underlying23 V6.heap.size rfl (.tmp 70) (.tmp 72) rfl (.slice Ao no co) ((M.take k).filter fun x => decide (x.f0 ∈ ds)) [x] (some ⟨W2.heap.size, 0, none⟩) 1 1 rfl rfl (RN.below' HO.out HBA.out) (boxN_C HXA.out) (Nat.le_trans HBB.out.size HBA.out.size) (by have h1 := (RN.C HO.out).1; have h2 := HNO.out; omega) ?_; intro v9 W9 hr9 hg9)
    clear x0 x1 x2 x3 x4 x5
    have HBB := za0.mk (grown_below (za5 HBB.out HBA.out) (RN.below' HO.out HBA.out) hg9)
    obtain ⟨A9, c9, rfl⟩ := RN.slice hr9
    obtain ⟨n9, Hn9⟩ : ∃ q, za0 ((((M.take k).filter fun x => decide (x.f0 ∈ ds)) ++ [x]).length = q) := ⟨_, ⟨rfl⟩⟩
    rw [Hn9.out] at hr9 ⊢
    have HO : za0 (RN W9 V6.heap.size (.slice A9 n9 c9) ((M.take (k + 1)).filter fun x => decide (x.f0 ∈ ds))) := ⟨by rw [HST.out, Hb.out]; exact hr9⟩
    clear hr9 hg9
    go_wp2
    go_roundw
    case rel => exact ⟨k + 1, A9, n9, c9, rfl, by go_num, by omega, HO, HBB⟩
    case measure => simp [intOf]; omega
  ·
   obtain rfl : k = n := by omega
   rw [List.take_of_length_le (Nat.le_of_eq HMn.out)] at HO
   go_wp2
   go_ret2
   have h := HRES.out
   rw [HDE.out] at h
   cases h
   exact ⟨_, rfl, Kd.R_lower HO.out HB.out.size, za5 HB.out HBB.out⟩
end
section
theorem badRune2_call (r : Int) (W : World) : Calls Tryz.prog 49 #[.int .i32 r] W fun e W' => e = .returned (.bool (!runeOk r)) ∧ Below W.heap.size W W' := by
 go_enter Tryz.func49, Tryz.ntmps49
 go_wp2_with fail
 refine (runes_Valid.calls 10 r (runeOk r) W (runesValid_is 9 r)).mono ?_
 rintro e W' ⟨rfl, hd⟩
 have HB := za0.mk (hd.below)
 clear hd
 go_wp2
 go_ret
 exact ⟨rfl, HB.out⟩
def wellB (l : List Node) : Bool := (faultsOf l).isEmpty
def lateE (l : List Node) : Int := if zak l = true then lastOf l else 0
/-- The first error of a replacement. -/
def errE (l : List Node) (d : Dot) (a n : Int) (rs : List Int) : Int :=
 firstE [if (!wellB l || !dotOk d) = true then 2 else 0, spanE l a n, if (decide (n > 10000) || decide ((rs.length : Int) > 10000)) = true then 5 else 0, if (rs.any fun r => !runeOk r) = true then 13 else 0,
  if (decide (d.f1 > wrap64 (wrap64 (4294967295 - (rs.length : Int)) + 1)) || decide (lateE l > wrap64 (4611686018427387904 - (rs.length : Int)))) = true then 14 else 0]
/-- What a replacement answers. -/
def replR (l : List Node) (d : Dot) (a n : Int) (rs : List Int) : List Node × Int :=
 if errE l d a n rs ≠ 0 then ([], errE l d a n rs) else if (chainR l d a rs).2 ≠ 0 then ([], (chainR l d a rs).2) else joinR (delE l a n).1 (chainR l d a rs).1
def edit_Replace.f (l0 : List Node) (a1_0 a1_1 a2 a3 : Int) (l4 : List Int) : Option (List Node × Int) := if l0.length ≤ 300000 ∧ l4.length ≤ 20000 then some (replR l0 ⟨a1_0, a1_1⟩ a2 a3 l4) else none
theorem firstE_zero {a b c d e : Int} (h : firstE [a, b, c, d, e] = 0) : a = 0 ∧ b = 0 ∧ c = 0 ∧ d = 0 ∧ e = 0 := by
 simp only [firstE] at h
 by_cases h1 : a = 0
 ·
  rw [if_pos h1] at h
  by_cases h2 : b = 0
  ·
   rw [if_pos h2] at h
   by_cases h3 : c = 0
   ·
    rw [if_pos h3] at h
    by_cases h4 : d = 0
    ·
     rw [if_pos h4] at h
     by_cases h5 : e = 0
     ·
      exact ⟨h1, h2, h3, h4, h5⟩
     ·
      rw [if_neg h5] at h; exact absurd h h5
    ·
     rw [if_neg h4] at h; exact absurd h h4
   ·
    rw [if_neg h3] at h; exact absurd h h3
  ·
   rw [if_neg h2] at h; exact absurd h h2
 ·
  rw [if_neg h1] at h; exact absurd h h1
theorem ite_zero {p : Bool} {v : Int} (hv : v ≠ 0) (h : (if p = true then v else 0) = 0) : p = false := by
 cases p with
 | false => rfl
 | true => exact absurd h hv
theorem err_zero {l : List Node} {d : Dot} {a n : Int} {rs : List Int} (hrs : rs.length ≤ 20000) (h : errE l d a n rs = 0) :
  faultsOf l = [] ∧ dotOk d = true ∧ spanE l a n = 0 ∧ ¬ n > 10000 ∧ rs.length ≤ 10000 ∧ (∀ r ∈ rs, runeOk r = true) ∧ d.f1 + (rs.length : Int) ≤ 4294967296 ∧ lastOf l + (rs.length : Int) ≤ 4611686018427387904 := by
 obtain ⟨h1, h2, h3, h4, h5⟩ := firstE_zero h
 have g1 := ite_zero (by decide) h1
 have g3 := ite_zero (by decide) h3
 have g4 := ite_zero (by decide) h4
 have g5 := ite_zero (by decide) h5
 rw [Bool.or_eq_false_iff] at g1 g3 g5
 have hw : faultsOf l = [] := by
  have := g1.1
  unfold wellB at this
  rw [Bool.not_eq_false'] at this
  exact List.isEmpty_iff.1 this
 have e1 : wrap64 (wrap64 (4294967295 - (rs.length : Int)) + 1) = 4294967296 - (rs.length : Int) := by unfold wrap64; omega
 have e2 : wrap64 (4611686018427387904 - (rs.length : Int)) = 4611686018427387904 - (rs.length : Int) := by unfold wrap64; omega
 have k1 := of_decide_eq_false g5.1
 have k2 := of_decide_eq_false g5.2
 rw [e1] at k1
 rw [e2] at k2
 unfold lateE at k2
 rw [if_pos (well_store hw)] at k2
 refine ⟨hw, by have := g1.2; rwa [Bool.not_eq_false'] at this, h2, of_decide_eq_false g3.1, by have := of_decide_eq_false g3.2; omega, fun r hr => ?_, by omega, by omega⟩
 have := List.any_eq_false.1 g4 r hr
 simpa using this
theorem mx_le (a b : Int) : a ≤ mx a b ∧ b ≤ mx a b := by
 unfold mx
 split <;> constructor <;> omega
theorem last_ge : ∀ (l : List Node) (t : Int), t ≤ l.foldl (fun t x => mx t x.f2) t
 | [], t => Int.le_refl _
 | x :: l, t => Int.le_trans (mx_le t x.f2).1 (last_ge l _)
set_option maxHeartbeats 4000000 in
set_option maxRecDepth 100000 in
theorem edit_Replace.calls (A0 : Option Addr) (c0 : Nat) (l0 : List Node) (a1_0 a1_1 a2 a3 : Int) (A4 : Option Addr) (c4 : Nat) (l4 : List Int) (r1 : List Node) (r2 : Int) (w : World) (hr0 : Kd.C k53 w A0 l0.length l0) (hc0 : l0.length ≤ c0) (hr4 : Kd.C (Kd.int .i32) w A4 l4.length l4) (hc4 : l4.length ≤ c4) (h : edit_Replace.f l0 a1_0 a1_1 a2 a3 l4 = some (r1, r2)) :
  Calls Tryz.prog 22 #[.slice A0 l0.length c0, .agg #[.int .i64 a1_0, .int .i64 a1_1], .int .i64 a2, .int .i64 a3, .slice A4 l4.length c4] w fun e w' => ∃ v0_ : Value, e = .returned (.tuple #[v0_, .int .i64 r2]) ∧ Kd.R k53 53 w' w.heap.size (fun _ => True) v0_ r1 ∧ Below w.heap.size w w' := by
 unfold edit_Replace.f at h
 by_cases hl : l0.length ≤ 300000 ∧ l4.length ≤ 20000
 rotate_left
 ·
  rw [if_neg hl] at h; cases h
 rw [if_pos hl] at h
 obtain ⟨d, hd⟩ : ∃ d : Dot, d = ⟨a1_0, a1_1⟩ := ⟨_, rfl⟩
 rw [← hd] at h
 rw [show a1_0 = d.f0 by rw [hd], show a1_1 = d.f1 by rw [hd]]
 clear hd
 have HRES := za0.mk (Option.some.inj h)
 have HL := za0.mk hl
 have HR := za0.mk hr0
 have HC := za0.mk hc0
 have HR4 := za0.mk hr4
 have HC4 := za0.mk hc4
 obtain ⟨n, Hn⟩ : ∃ n, za0 (l0.length = n) := ⟨_, ⟨rfl⟩⟩
 obtain ⟨m, Hm⟩ : ∃ m, za0 (l4.length = m) := ⟨_, ⟨rfl⟩⟩
 obtain ⟨b, Hb⟩ : ∃ b, za0 (wellB l0 = b) := ⟨_, ⟨rfl⟩⟩
 obtain ⟨dv, Hdv⟩ : ∃ b, za0 (dotOk d = b) := ⟨_, ⟨rfl⟩⟩
 obtain ⟨sp, Hsp⟩ : ∃ s, za0 (spanE l0 a2 a3 = s) := ⟨_, ⟨rfl⟩⟩
 obtain ⟨bn, Hbn⟩ : ∃ b, za0 (decide (a3 > 10000) = b) := ⟨_, ⟨rfl⟩⟩
 obtain ⟨odd, Hod⟩ : ∃ b, za0 ((l4.any fun r => !runeOk r) = b) := ⟨_, ⟨rfl⟩⟩
 obtain ⟨cnt, Hcn⟩ : ∃ b, za0 (decide (d.f1 > wrap64 (wrap64 (4294967295 - (m : Int)) + 1)) = b) := ⟨_, ⟨rfl⟩⟩
 obtain ⟨late, Hlt⟩ : ∃ t, za0 (lateE l0 = t) := ⟨_, ⟨rfl⟩⟩
 obtain ⟨w1, Hw1⟩ : ∃ q : Int, za0 ((if (!b || !dv) = true then 2 else 0) = q) := ⟨_, ⟨rfl⟩⟩
 obtain ⟨w3, Hw3⟩ : ∃ q : Int, za0 ((if (bn || decide ((m : Int) > 10000)) = true then 5 else 0) = q) := ⟨_, ⟨rfl⟩⟩
 obtain ⟨w4, Hw4⟩ : ∃ q : Int, za0 ((if odd = true then 13 else 0) = q) := ⟨_, ⟨rfl⟩⟩
 obtain ⟨w5, Hw5⟩ : ∃ q : Int, za0 ((if (cnt || decide (late > wrap64 (4611686018427387904 - (m : Int)))) = true then 14 else 0) = q) := ⟨_, ⟨rfl⟩⟩
 obtain ⟨er, Her⟩ : ∃ q : Int, za0 (firstE [w1, sp, w3, w4, w5] = q) := ⟨_, ⟨rfl⟩⟩
 have HERR : za0 (errE l0 d a2 a3 l4 = er) := ⟨by
  unfold errE
  rw [Hm.out, Hb.out, Hdv.out, Hsp.out, Hbn.out, Hod.out, Hcn.out, Hlt.out, Hw1.out, Hw3.out, Hw4.out, Hw5.out, Her.out]⟩
 have HWELL : za0 (∀ W, Below w.heap.size w W → Calls Tryz.prog 51 #[.slice A0 n c0] W fun e w' => e = .returned (.bool b) ∧ Below W.heap.size W w') := ⟨fun W hb => by
  rw [← Hn.out]
  refine shape_Well.calls A0 c0 l0 b W (Kd.C_below hr0 hb) hc0 ?_
  have hbo := Hb.out
  unfold wellB at hbo
  cases hb2 : b with
  | true => rw [hb2] at hbo; exact well_yes (by omega) (List.isEmpty_iff.1 hbo)
  | false => rw [hb2] at hbo; exact well_no (by omega) fun h => by rw [h] at hbo; cases hbo⟩
 have HSPAN : za0 (∀ W, Below w.heap.size w W → Calls Tryz.prog 41 #[.slice A0 n c0, .int .i64 a2, .int .i64 a3] W fun e w' => e = .returned (.int .i64 sp) ∧ Below W.heap.size W w') := ⟨fun W hb => by
  rw [← Hn.out]
  exact edit_span.calls 3 A0 c0 l0 a2 a3 sp W (Kd.C_below hr0 hb) hc0 (by rw [span_is (by omega) a2 a3 (Nat.le_refl 3), Hsp.out])⟩
 have HLATE : za0 (∀ W, Below w.heap.size w W → Calls Tryz.prog 23 #[.slice A0 n c0] W fun e w' => e = .returned (.int .i64 late) ∧ Below W.heap.size W w') := ⟨fun W hb => by
  rw [← Hn.out]
  exact edit_Latest.calls (l0.length + 1) A0 c0 l0 late W (Kd.C_below hr0 hb) hc0 (by rw [latest_is (by omega) (by omega)]; exact congrArg some Hlt.out)⟩
 have HDC := za0.mk (zal w (dotC d))
 have HB := za0.mk (za2 (Below.refl _ w) (dotC d))
 have hcall := ContainsFuncRune.calls (fun r => !runeOk r) 49 A4 c4 l4 (w.alloc (dotC d)) (Kd.C_below hr4 HB.out) hc4 (enters_of Tryz.func49 (by kernel_rfl) rfl) badRune2_call
 rw [Hm.out, Hod.out] at hcall
 rw [Hn.out, Hm.out]
 have HCALL := za0.mk hcall
 have hu2 := Tryz.underlying25
 clear hcall h hl hr0 hc0 hr4 hc4
 go_enter Tryz.func22, Tryz.ntmps22
 go_wp2_with fail
 refine HCALL.out.mono ?_
 rintro e V1 ⟨rfl, hb⟩
 have HDC := za0.mk (za7 HDC.out hb)
 have HB := za0.mk (za5 HB.out hb)
 have hc1 : decide (d.f1 > wrap64 (wrap64 (4294967295 - (m : Int)) + 1)) = cnt := Hcn.out
 have hc2 : decide (wrap64 (wrap64 (4294967295 - (m : Int)) + 1) < d.f1) = cnt := Hcn.out
 obtain ⟨x0, x1⟩ := dot_cells HDC.out
 clear hb HCALL
 go_wp2_with fail
 clear x0 x1 hc1 hc2
 refine (HWELL.out V1 HB.out).mono ?_
 rintro e V2 ⟨rfl, hb⟩
 have HDC := za0.mk (za7 HDC.out hb)
 have HB := za0.mk (za5 HB.out hb)
 clear hb HWELL
 cases b
 ·
  go_wp2_with fail
  refine (edit_when.calls true 2 w1 V2 (by rw [ewhen_is]; exact congrArg some Hw1.out)).mono ?_
  rintro e V3 ⟨rfl, hd⟩
  have HDC := za0.mk (za7 HDC.out (Gr.drawn hd).below)
  have HB := za0.mk (za5 HB.out (Gr.drawn hd).below)
  clear hd
  go_wp2_with fail
  refine (HSPAN.out V3 HB.out).mono ?_
  rintro e V4 ⟨rfl, hb⟩
  have HDC := za0.mk (za7 HDC.out hb)
  have HB := za0.mk (za5 HB.out hb)
  clear hb
  have hb1 : decide (a3 > 10000) = bn := Hbn.out
  have hb2 : decide (10000 < a3) = bn := Hbn.out
  cases bn
  ·
   go_wp2_with fail
   refine (edit_when.calls (decide ((m : Int) > 10000)) 5 w3 V4 (by rw [ewhen_is]; exact congrArg some Hw3.out)).mono ?_
   rintro e V5 ⟨rfl, hd⟩
   have HDC := za0.mk (za7 HDC.out (Gr.drawn hd).below)
   have HB := za0.mk (za5 HB.out (Gr.drawn hd).below)
   clear hd
   go_wp2_with fail
   refine (edit_when.calls odd 13 w4 V5 (by rw [ewhen_is]; exact congrArg some Hw4.out)).mono ?_
   rintro e V6 ⟨rfl, hd⟩
   have HDC := za0.mk (za7 HDC.out (Gr.drawn hd).below)
   have HB := za0.mk (za5 HB.out (Gr.drawn hd).below)
   clear hd
   cases cnt
   ·
    go_wp2_with fail
    refine (HLATE.out V6 HB.out).mono ?_
    rintro e V7 ⟨rfl, hb⟩
    have HDC := za0.mk (za7 HDC.out hb)
    have HB := za0.mk (za5 HB.out hb)
    clear hb
    have hb1 : decide (late > wrap64 (4611686018427387904 - (m : Int))) = decide (wrap64 (4611686018427387904 - (m : Int)) < late) := rfl
    go_wp2_with fail
    clear hb1
    refine (edit_when.calls (decide (late > wrap64 (4611686018427387904 - (m : Int)))) 14 w5 V7 (by rw [ewhen_is]; exact congrArg some Hw5.out)).mono ?_
    rintro e V8 ⟨rfl, hd⟩
    have HDC := za0.mk (za7 HDC.out (Gr.drawn hd).below)
    have HB := za0.mk (za5 HB.out (Gr.drawn hd).below)
    clear hd
    go_wp2_with fail
    refine (edit_first.calls 6 _ 5 [w1, sp, w3, w4, w5] er _ (intRow_C [w1, sp, w3, w4, w5] _ rfl (zal _ _) (by simp)) (Nat.le_refl _) (by rw [efirst_is _ (by simp) (by show 5 < 6; omega), Her.out])).mono ?_
    rintro e V9 ⟨rfl, hd⟩
    have hbb := za5 (za2 (Below.refl V8.heap.size V8) _) (Gr.drawn hd).below
    have HDC := za0.mk (za7 HDC.out hbb)
    have HB := za0.mk (za5 HB.out hbb)
    clear hd hbb
    have he : er ≠ 0 := fun h => by
     have hz := firstE_zero (Her.out.trans h)
     have := Hw1.out
     rw [hz.1] at this
     exact absurd (ite_zero (by decide) this) (by simp)
    have hne : (er == 0) = false := beq_eq_false_iff_ne.2 he
    have HNE := za0.mk he
    clear he
    go_wp2
    go_ret2
    have h := HRES.out
    unfold replR at h
    rw [HERR.out, if_pos HNE.out] at h
    cases h
    exact ⟨_, rfl, Kd.R_nil _ _ _ _ _, HB.out⟩
   ·
    go_wp2_with fail
    generalize V6 = V7 at *
    refine (edit_when.calls true 14 w5 V7 (by rw [ewhen_is]; exact congrArg some Hw5.out)).mono ?_
    rintro e V8 ⟨rfl, hd⟩
    have HDC := za0.mk (za7 HDC.out (Gr.drawn hd).below)
    have HB := za0.mk (za5 HB.out (Gr.drawn hd).below)
    clear hd
    go_wp2_with fail
    refine (edit_first.calls 6 _ 5 [w1, sp, w3, w4, w5] er _ (intRow_C [w1, sp, w3, w4, w5] _ rfl (zal _ _) (by simp)) (Nat.le_refl _) (by rw [efirst_is _ (by simp) (by show 5 < 6; omega), Her.out])).mono ?_
    rintro e V9 ⟨rfl, hd⟩
    have hbb := za5 (za2 (Below.refl V8.heap.size V8) _) (Gr.drawn hd).below
    have HDC := za0.mk (za7 HDC.out hbb)
    have HB := za0.mk (za5 HB.out hbb)
    clear hd hbb
    have he : er ≠ 0 := fun h => by
     have hz := firstE_zero (Her.out.trans h)
     have := Hw1.out
     rw [hz.1] at this
     exact absurd (ite_zero (by decide) this) (by simp)
    have hne : (er == 0) = false := beq_eq_false_iff_ne.2 he
    have HNE := za0.mk he
    clear he
    go_wp2
    go_ret2
    have h := HRES.out
    unfold replR at h
    rw [HERR.out, if_pos HNE.out] at h
    cases h
    exact ⟨_, rfl, Kd.R_nil _ _ _ _ _, HB.out⟩
  ·
   go_wp2_with fail
   refine (edit_when.calls true 5 w3 V4 (by rw [ewhen_is]; exact congrArg some Hw3.out)).mono ?_
   rintro e V5 ⟨rfl, hd⟩
   have HDC := za0.mk (za7 HDC.out (Gr.drawn hd).below)
   have HB := za0.mk (za5 HB.out (Gr.drawn hd).below)
   clear hd
   go_wp2_with fail
   refine (edit_when.calls odd 13 w4 V5 (by rw [ewhen_is]; exact congrArg some Hw4.out)).mono ?_
   rintro e V6 ⟨rfl, hd⟩
   have HDC := za0.mk (za7 HDC.out (Gr.drawn hd).below)
   have HB := za0.mk (za5 HB.out (Gr.drawn hd).below)
   clear hd
   cases cnt
   ·
    go_wp2_with fail
    refine (HLATE.out V6 HB.out).mono ?_
    rintro e V7 ⟨rfl, hb⟩
    have HDC := za0.mk (za7 HDC.out hb)
    have HB := za0.mk (za5 HB.out hb)
    clear hb
    have hb1 : decide (late > wrap64 (4611686018427387904 - (m : Int))) = decide (wrap64 (4611686018427387904 - (m : Int)) < late) := rfl
    go_wp2_with fail
    clear hb1
    refine (edit_when.calls (decide (late > wrap64 (4611686018427387904 - (m : Int)))) 14 w5 V7 (by rw [ewhen_is]; exact congrArg some Hw5.out)).mono ?_
    rintro e V8 ⟨rfl, hd⟩
    have HDC := za0.mk (za7 HDC.out (Gr.drawn hd).below)
    have HB := za0.mk (za5 HB.out (Gr.drawn hd).below)
    clear hd
    go_wp2_with fail
    refine (edit_first.calls 6 _ 5 [w1, sp, w3, w4, w5] er _ (intRow_C [w1, sp, w3, w4, w5] _ rfl (zal _ _) (by simp)) (Nat.le_refl _) (by rw [efirst_is _ (by simp) (by show 5 < 6; omega), Her.out])).mono ?_
    rintro e V9 ⟨rfl, hd⟩
    have hbb := za5 (za2 (Below.refl V8.heap.size V8) _) (Gr.drawn hd).below
    have HDC := za0.mk (za7 HDC.out hbb)
    have HB := za0.mk (za5 HB.out hbb)
    clear hd hbb
    have he : er ≠ 0 := fun h => by
     have hz := firstE_zero (Her.out.trans h)
     have := Hw1.out
     rw [hz.1] at this
     exact absurd (ite_zero (by decide) this) (by simp)
    have hne : (er == 0) = false := beq_eq_false_iff_ne.2 he
    have HNE := za0.mk he
    clear he
    go_wp2
    go_ret2
    have h := HRES.out
    unfold replR at h
    rw [HERR.out, if_pos HNE.out] at h
    cases h
    exact ⟨_, rfl, Kd.R_nil _ _ _ _ _, HB.out⟩
   ·
    go_wp2_with fail
    generalize V6 = V7 at *
    refine (edit_when.calls true 14 w5 V7 (by rw [ewhen_is]; exact congrArg some Hw5.out)).mono ?_
    rintro e V8 ⟨rfl, hd⟩
    have HDC := za0.mk (za7 HDC.out (Gr.drawn hd).below)
    have HB := za0.mk (za5 HB.out (Gr.drawn hd).below)
    clear hd
    go_wp2_with fail
    refine (edit_first.calls 6 _ 5 [w1, sp, w3, w4, w5] er _ (intRow_C [w1, sp, w3, w4, w5] _ rfl (zal _ _) (by simp)) (Nat.le_refl _) (by rw [efirst_is _ (by simp) (by show 5 < 6; omega), Her.out])).mono ?_
    rintro e V9 ⟨rfl, hd⟩
    have hbb := za5 (za2 (Below.refl V8.heap.size V8) _) (Gr.drawn hd).below
    have HDC := za0.mk (za7 HDC.out hbb)
    have HB := za0.mk (za5 HB.out hbb)
    clear hd hbb
    have he : er ≠ 0 := fun h => by
     have hz := firstE_zero (Her.out.trans h)
     have := Hw1.out
     rw [hz.1] at this
     exact absurd (ite_zero (by decide) this) (by simp)
    have hne : (er == 0) = false := beq_eq_false_iff_ne.2 he
    have HNE := za0.mk he
    clear he
    go_wp2
    go_ret2
    have h := HRES.out
    unfold replR at h
    rw [HERR.out, if_pos HNE.out] at h
    cases h
    exact ⟨_, rfl, Kd.R_nil _ _ _ _ _, HB.out⟩
 ·
  obtain ⟨x0, x1⟩ := dot_cells HDC.out
  go_wp2_with fail
  clear x0 x1
  refine (dot_Valid.calls d.f0 d.f1 dv V2 (by rw [dotValid_is, Hdv.out])).mono ?_
  rintro e V21 ⟨rfl, hb⟩
  have HDC := za0.mk (za7 HDC.out hb)
  have HB := za0.mk (za5 HB.out hb)
  clear hb
  go_wp2_with fail
  refine (edit_when.calls (!dv) 2 w1 V21 (by rw [ewhen_is]; exact congrArg some Hw1.out)).mono ?_
  rintro e V3 ⟨rfl, hd⟩
  have HDC := za0.mk (za7 HDC.out (Gr.drawn hd).below)
  have HB := za0.mk (za5 HB.out (Gr.drawn hd).below)
  clear hd
  go_wp2_with fail
  refine (HSPAN.out V3 HB.out).mono ?_
  rintro e V4 ⟨rfl, hb⟩
  have HDC := za0.mk (za7 HDC.out hb)
  have HB := za0.mk (za5 HB.out hb)
  clear hb
  have hb1 : decide (a3 > 10000) = bn := Hbn.out
  have hb2 : decide (10000 < a3) = bn := Hbn.out
  cases bn
  ·
   go_wp2_with fail
   refine (edit_when.calls (decide ((m : Int) > 10000)) 5 w3 V4 (by rw [ewhen_is]; exact congrArg some Hw3.out)).mono ?_
   rintro e V5 ⟨rfl, hd⟩
   have HDC := za0.mk (za7 HDC.out (Gr.drawn hd).below)
   have HB := za0.mk (za5 HB.out (Gr.drawn hd).below)
   clear hd
   go_wp2_with fail
   refine (edit_when.calls odd 13 w4 V5 (by rw [ewhen_is]; exact congrArg some Hw4.out)).mono ?_
   rintro e V6 ⟨rfl, hd⟩
   have HDC := za0.mk (za7 HDC.out (Gr.drawn hd).below)
   have HB := za0.mk (za5 HB.out (Gr.drawn hd).below)
   clear hd
   cases cnt
   ·
    go_wp2_with fail
    refine (HLATE.out V6 HB.out).mono ?_
    rintro e V7 ⟨rfl, hb⟩
    have HDC := za0.mk (za7 HDC.out hb)
    have HB := za0.mk (za5 HB.out hb)
    clear hb
    have hb1 : decide (late > wrap64 (4611686018427387904 - (m : Int))) = decide (wrap64 (4611686018427387904 - (m : Int)) < late) := rfl
    go_wp2_with fail
    clear hb1
    refine (edit_when.calls (decide (late > wrap64 (4611686018427387904 - (m : Int)))) 14 w5 V7 (by rw [ewhen_is]; exact congrArg some Hw5.out)).mono ?_
    rintro e V8 ⟨rfl, hd⟩
    have HDC := za0.mk (za7 HDC.out (Gr.drawn hd).below)
    have HB := za0.mk (za5 HB.out (Gr.drawn hd).below)
    clear hd
    go_wp2_with fail
    refine (edit_first.calls 6 _ 5 [w1, sp, w3, w4, w5] er _ (intRow_C [w1, sp, w3, w4, w5] _ rfl (zal _ _) (by simp)) (Nat.le_refl _) (by rw [efirst_is _ (by simp) (by show 5 < 6; omega), Her.out])).mono ?_
    rintro e V9 ⟨rfl, hd⟩
    have hbb := za5 (za2 (Below.refl V8.heap.size V8) _) (Gr.drawn hd).below
    have HDC := za0.mk (za7 HDC.out hbb)
    have HB := za0.mk (za5 HB.out hbb)
    clear hd hbb
    by_cases he : er = 0
    rotate_left
    ·
     have hne : (er == 0) = false := beq_eq_false_iff_ne.2 he
     have HNE := za0.mk he
     clear he
     go_wp2
     go_ret2
     have h := HRES.out
     unfold replR at h
     rw [HERR.out, if_pos HNE.out] at h
     cases h
     exact ⟨_, rfl, Kd.R_nil _ _ _ _ _, HB.out⟩
    have HZ := za0.mk (err_zero (by have := HL.out.2; omega) (HERR.out.trans he))
    have HST := za0.mk (well_store HZ.out.1)
    have HS := za0.mk (span_zero HZ.out.2.2.1)
    have hcall := chain_call A0 c0 l0 d a2 A4 c4 l4 V9 (Kd.C_below HR.out HB.out) HC.out (Kd.C_below HR4.out HB.out) HC4.out (by have := HL.out; omega) HZ.out.2.2.2.2.1 HST.out ⟨HS.out.2.1, HS.out.2.2.2.1⟩ ⟨by have := HZ.out.2.1; unfold dotOk at this; have := of_decide_eq_true this; omega, HZ.out.2.2.2.2.2.2.1⟩ ⟨last_ge l0 0, HZ.out.2.2.2.2.2.2.2⟩
    obtain ⟨mo, Hmo⟩ : ∃ q, za0 ((chainR l0 d a2 l4).1 = q) := ⟨_, ⟨rfl⟩⟩
    obtain ⟨e1, He1⟩ : ∃ q, za0 ((chainR l0 d a2 l4).2 = q) := ⟨_, ⟨rfl⟩⟩
    rw [Hmo.out, He1.out, Hn.out, Hm.out] at hcall
    have HCALL := za0.mk hcall
    obtain ⟨x0, x1⟩ := dot_cells HDC.out
    have HE0 := za0.mk he
    clear hcall he
    rw [HE0.out]
    go_wp2_with fail
    clear x0 x1
    refine HCALL.out.mono ?_
    rintro e U1 ⟨v1, rfl, hr1, hb⟩
    have HB := za0.mk (za5 HB.out hb)
    obtain ⟨A1, c1, rfl⟩ := Kd.R_slice hr1
    have HM1 := za0.mk (Kd.R_reads' hr1).2
    clear hb HCALL hr1
    by_cases he1 : e1 = 0
    rotate_left
    ·
     have hne : (e1 == 0) = false := beq_eq_false_iff_ne.2 he1
     have HNE := za0.mk he1
     clear he1
     go_wp2
     go_ret2
     have h := HRES.out
     unfold replR at h
     rw [HERR.out, if_neg (by rw [HE0.out]; simp), He1.out, if_pos HNE.out] at h
     cases h
     exact ⟨_, rfl, Kd.R_nil _ _ _ _ _, HB.out⟩
    subst he1
    have hmo : mo.length ≤ 10000 := by
     rw [← Hmo.out]
     unfold chainR
     split
     ·
      simp
     ·
      unfold chainE; rw [List.length_map, List.length_range]; exact HZ.out.2.2.2.2.1
    obtain ⟨m1, Hm1⟩ : ∃ q, za0 (mo.length = q) := ⟨_, ⟨rfl⟩⟩
    have HMO := za0.mk hmo
    rw [Hm1.out] at HM1 ⊢
    obtain ⟨go, Hgo⟩ : ∃ q, za0 ((delE l0 a2 a3).1 = q) := ⟨_, ⟨rfl⟩⟩
    have HDEL : za0 (delE l0 a2 a3 = (go, 0)) := ⟨by rw [← Hgo.out, del_some HZ.out.2.2.1 (by have := HZ.out.2.2.2.1; omega)]⟩
    have HGL : za0 (go.length ≤ 300000) := ⟨by
     rw [← Hgo.out, del_some HZ.out.2.2.1 (by have := HZ.out.2.2.2.1; omega), List.length_map]
     exact Nat.le_trans (List.length_filter_le _ _) HL.out.1⟩
    have hcall := edit_Delete.calls A0 c0 l0 a2 a3 go 0 U1 (Kd.C_below HR.out HB.out) HC.out (by unfold edit_Delete.f; rw [if_pos (by have := HL.out; omega), HDEL.out])
    rw [Hn.out] at hcall
    have HCALL := za0.mk hcall
    clear hcall hmo
    go_wp2_with fail
    refine HCALL.out.mono ?_
    rintro e U2 ⟨v2, rfl, hr2, hb⟩
    have HB := za0.mk (za5 HB.out hb)
    have HM1 := za0.mk (show m1 ≤ c1 ∧ Kd.C k53 U2 A1 m1 mo from ⟨HM1.out.1, Kd.C_below HM1.out.2 hb⟩)
    obtain ⟨A2, c2, rfl⟩ := Kd.R_slice hr2
    have HM2 := za0.mk (Kd.R_reads' hr2).2
    obtain ⟨m2, Hm2⟩ : ∃ q, za0 (go.length = q) := ⟨_, ⟨rfl⟩⟩
    rw [Hm2.out] at HM2 ⊢
    have HJR : za0 (joinR go mo = (r1, r2)) := ⟨by
     have h := HRES.out
     unfold replR at h
     rwa [HERR.out, if_neg (by rw [HE0.out]; simp), He1.out, if_neg (by simp), Hgo.out, Hmo.out] at h⟩
    have hcall := join_Join.calls A2 c2 go A1 c1 mo r1 r2 U2 (by rw [Hm2.out]; exact HM2.out.2) (by rw [Hm2.out]; exact HM2.out.1) (by rw [Hm1.out]; exact HM1.out.2) (by rw [Hm1.out]; exact HM1.out.1) (by unfold join_Join.f; rw [if_pos (by have := HGL.out; have := HMO.out; omega), HJR.out])
    rw [Hm1.out, Hm2.out] at hcall
    have HCALL := za0.mk hcall
    clear hcall hb hr2
    go_wp2_with fail
    refine HCALL.out.mono ?_
    rintro e U3 ⟨v3, rfl, hr3, hb⟩
    have HR3 := za0.mk hr3
    have HB3 := za0.mk (za5 HB.out hb)
    clear hb HCALL hr3
    go_wp2
    go_ret2
    exact ⟨_, rfl, Kd.R_lower HR3.out HB.out.size, HB3.out⟩
   ·
    go_wp2_with fail
    generalize V6 = V7 at *
    refine (edit_when.calls true 14 w5 V7 (by rw [ewhen_is]; exact congrArg some Hw5.out)).mono ?_
    rintro e V8 ⟨rfl, hd⟩
    have HDC := za0.mk (za7 HDC.out (Gr.drawn hd).below)
    have HB := za0.mk (za5 HB.out (Gr.drawn hd).below)
    clear hd
    go_wp2_with fail
    refine (edit_first.calls 6 _ 5 [w1, sp, w3, w4, w5] er _ (intRow_C [w1, sp, w3, w4, w5] _ rfl (zal _ _) (by simp)) (Nat.le_refl _) (by rw [efirst_is _ (by simp) (by show 5 < 6; omega), Her.out])).mono ?_
    rintro e V9 ⟨rfl, hd⟩
    have hbb := za5 (za2 (Below.refl V8.heap.size V8) _) (Gr.drawn hd).below
    have HDC := za0.mk (za7 HDC.out hbb)
    have HB := za0.mk (za5 HB.out hbb)
    clear hd hbb
    have he : er ≠ 0 := fun h => by
     have hz := firstE_zero (Her.out.trans h)
     have := Hw5.out
     rw [hz.2.2.2.2] at this
     exact absurd (ite_zero (by decide) this) (by simp)
    have hne : (er == 0) = false := beq_eq_false_iff_ne.2 he
    have HNE := za0.mk he
    clear he
    go_wp2
    go_ret2
    have h := HRES.out
    unfold replR at h
    rw [HERR.out, if_pos HNE.out] at h
    cases h
    exact ⟨_, rfl, Kd.R_nil _ _ _ _ _, HB.out⟩
  ·
   go_wp2_with fail
   refine (edit_when.calls true 5 w3 V4 (by rw [ewhen_is]; exact congrArg some Hw3.out)).mono ?_
   rintro e V5 ⟨rfl, hd⟩
   have HDC := za0.mk (za7 HDC.out (Gr.drawn hd).below)
   have HB := za0.mk (za5 HB.out (Gr.drawn hd).below)
   clear hd
   go_wp2_with fail
   refine (edit_when.calls odd 13 w4 V5 (by rw [ewhen_is]; exact congrArg some Hw4.out)).mono ?_
   rintro e V6 ⟨rfl, hd⟩
   have HDC := za0.mk (za7 HDC.out (Gr.drawn hd).below)
   have HB := za0.mk (za5 HB.out (Gr.drawn hd).below)
   clear hd
   cases cnt
   ·
    go_wp2_with fail
    refine (HLATE.out V6 HB.out).mono ?_
    rintro e V7 ⟨rfl, hb⟩
    have HDC := za0.mk (za7 HDC.out hb)
    have HB := za0.mk (za5 HB.out hb)
    clear hb
    have hb1 : decide (late > wrap64 (4611686018427387904 - (m : Int))) = decide (wrap64 (4611686018427387904 - (m : Int)) < late) := rfl
    go_wp2_with fail
    clear hb1
    refine (edit_when.calls (decide (late > wrap64 (4611686018427387904 - (m : Int)))) 14 w5 V7 (by rw [ewhen_is]; exact congrArg some Hw5.out)).mono ?_
    rintro e V8 ⟨rfl, hd⟩
    have HDC := za0.mk (za7 HDC.out (Gr.drawn hd).below)
    have HB := za0.mk (za5 HB.out (Gr.drawn hd).below)
    clear hd
    go_wp2_with fail
    refine (edit_first.calls 6 _ 5 [w1, sp, w3, w4, w5] er _ (intRow_C [w1, sp, w3, w4, w5] _ rfl (zal _ _) (by simp)) (Nat.le_refl _) (by rw [efirst_is _ (by simp) (by show 5 < 6; omega), Her.out])).mono ?_
    rintro e V9 ⟨rfl, hd⟩
    have hbb := za5 (za2 (Below.refl V8.heap.size V8) _) (Gr.drawn hd).below
    have HDC := za0.mk (za7 HDC.out hbb)
    have HB := za0.mk (za5 HB.out hbb)
    clear hd hbb
    have he : er ≠ 0 := fun h => by
     have hz := firstE_zero (Her.out.trans h)
     have := Hw3.out
     rw [hz.2.2.1] at this
     exact absurd (ite_zero (by decide) this) (by simp)
    have hne : (er == 0) = false := beq_eq_false_iff_ne.2 he
    have HNE := za0.mk he
    clear he
    go_wp2
    go_ret2
    have h := HRES.out
    unfold replR at h
    rw [HERR.out, if_pos HNE.out] at h
    cases h
    exact ⟨_, rfl, Kd.R_nil _ _ _ _ _, HB.out⟩
   ·
    go_wp2_with fail
    generalize V6 = V7 at *
    refine (edit_when.calls true 14 w5 V7 (by rw [ewhen_is]; exact congrArg some Hw5.out)).mono ?_
    rintro e V8 ⟨rfl, hd⟩
    have HDC := za0.mk (za7 HDC.out (Gr.drawn hd).below)
    have HB := za0.mk (za5 HB.out (Gr.drawn hd).below)
    clear hd
    go_wp2_with fail
    refine (edit_first.calls 6 _ 5 [w1, sp, w3, w4, w5] er _ (intRow_C [w1, sp, w3, w4, w5] _ rfl (zal _ _) (by simp)) (Nat.le_refl _) (by rw [efirst_is _ (by simp) (by show 5 < 6; omega), Her.out])).mono ?_
    rintro e V9 ⟨rfl, hd⟩
    have hbb := za5 (za2 (Below.refl V8.heap.size V8) _) (Gr.drawn hd).below
    have HDC := za0.mk (za7 HDC.out hbb)
    have HB := za0.mk (za5 HB.out hbb)
    clear hd hbb
    have he : er ≠ 0 := fun h => by
     have hz := firstE_zero (Her.out.trans h)
     have := Hw3.out
     rw [hz.2.2.1] at this
     exact absurd (ite_zero (by decide) this) (by simp)
    have hne : (er == 0) = false := beq_eq_false_iff_ne.2 he
    have HNE := za0.mk he
    clear he
    go_wp2
    go_ret2
    have h := HRES.out
    unfold replR at h
    rw [HERR.out, if_pos HNE.out] at h
    cases h
    exact ⟨_, rfl, Kd.R_nil _ _ _ _ _, HB.out⟩
end
section
def agreeJ (x y : Node) : Bool := decide (x.f0 = y.f0 ∧ x.f1 = y.f1 ∧ x.f2 = y.f2 ∧ (x.f3 = 0 ∨ y.f3 = 0 ∨ x.f3 = y.f3))
def mergeJ (x y : Node) : Node := if agreeJ x y = true then (if y.f3 = 0 then y else x) else nodeZ
attribute [local go_sem high] eqA25
end
section
theorem jfind_from (l : List Node) (hl : l.length ≤ 1000000) (d : Dot) : ∀ (q k i : Nat), i + q = l.length → q < k → redpencilref14_Find.l0 k l (i : Int) d.f0 d.f1 = some (match (l.drop i).findIdx? (dotIs d) with | some j => ((i + j : Nat) : Int) | none => -1) := by
 intro q
 induction q with
 | zero =>
  intro k i hi hk
  obtain ⟨k, rfl⟩ : ∃ m, k = m + 1 := ⟨k - 1, by omega⟩
  simp only [redpencilref14_Find.l0]
  rw [if_neg (by omega), List.drop_of_length_le (by omega)]
  rfl
 | succ q ih =>
  intro k i hi hk
  obtain ⟨k, rfl⟩ : ∃ m, k = m + 1 := ⟨k - 1, by omega⟩
  have hlt : i < l.length := by omega
  simp only [redpencilref14_Find.l0]
  rw [if_pos (by omega), if_pos (by omega), rdN hlt, wrap_succ hlt hl, List.drop_eq_getElem_cons hlt, List.findIdx?_cons]
  change (if dotIs d l[i] = true then _ else _) = _
  by_cases e : dotIs d l[i] = true
  ·
   rw [if_pos e, if_pos e]
   simp
  ·
   rw [if_neg e, if_neg e, ih k (i + 1) (by omega) (by omega)]
   cases (l.drop (i + 1)).findIdx? (dotIs d) with
   | none => rfl
   | some j =>
    show some (((i + 1 + j : Nat)) : Int) = some (((i + (j + 1) : Nat)) : Int)
    rw [show i + 1 + j = i + (j + 1) by omega]
theorem jfind_is (l : List Node) (hl : l.length ≤ 1000000) (d : Dot) {k : Nat} (hk : l.length < k) : redpencilref14_Find.f k l d.f0 d.f1 = some (idxFrom (dotIs d) l) := by
 have := jfind_from l hl d l.length k 0 (by omega) hk
 unfold redpencilref14_Find.f idxFrom
 rw [show ((0 : Nat) : Int) = 0 from rfl] at this
 rw [this, List.drop_zero]
 cases l.findIdx? (dotIs d) with
 | none => rfl
 | some j => simp
def stepJ (o : List Node) (y : Node) : List Node := match o.findIdx? (dotIs y.f0) with | some k => o.set k (mergeJ (o.getD k nodeZ) y) | none => insP y o
/-- The reference's join. -/
def joinJ (a b : List Node) : List Node := b.foldl stepJ a
theorem insP_length (x : Node) (l : List Node) : (insP x l).length = l.length + 1 := by
 unfold insP
 have := congrArg List.length (List.takeWhile_append_dropWhile (p := fun y : Node => dotLt y.f0 x.f0) (l := l))
 rw [List.length_append] at this
 rw [List.length_append, List.length_append, List.length_singleton]
 omega
end
section
def agreeL (a b : List Node) : Bool := a.all fun x => match b.findIdx? (dotIs x.f0) with | some p => agreeJ x (b.getD p nodeZ) | none => true
end
section
theorem jis_self (x : Node) : dotIs x.f0 x = true := by unfold dotIs; simp
theorem jis_no {x y : Node} (h : y.f0 ≠ x.f0) : dotIs x.f0 y = false := by
 unfold dotIs
 rw [Bool.eq_false_iff]
 intro e
 apply h
 simp only [Bool.and_eq_true, beq_iff_eq] at e
 cases hx : y.f0; cases hy : x.f0
 rw [hx, hy] at e
 simp only at e
 rw [e.1, e.2]
theorem incB_mk : ∀ {l : List Node}, Inc l → incB (l.map (·.f0)) = true
 | [], _ => rfl
 | [_], _ => rfl
 | a :: b :: l, h => by
  simp only [List.map_cons]
  rw [incB, Bool.and_eq_true]
  exact ⟨(List.pairwise_cons.1 h).1 b (List.mem_cons_self ..), incB_mk (List.pairwise_cons.1 h).2⟩
theorem dne {x z : Node} (h : dotLt x.f0 z.f0 = true) : x.f0 ≠ z.f0 := fun e => by rw [e, dotLt_irrefl] at h; cases h
theorem stepJ_cons {x z : Node} {o : List Node} (h : dotLt x.f0 z.f0 = true) : stepJ (x :: o) z = x :: stepJ o z := by
 have e : dotIs z.f0 x = false := jis_no (dne h)
 unfold stepJ
 rw [List.findIdx?_cons, e]
 cases o.findIdx? (dotIs z.f0) with
 | none => simp [insP, h]
 | some k => simp
theorem joinJ_cons {x : Node} : ∀ {m o : List Node}, (∀ z ∈ m, dotLt x.f0 z.f0 = true) → joinJ (x :: o) m = x :: joinJ o m
 | [], _, _ => rfl
 | z :: m, o, h => by
  show joinJ (stepJ (x :: o) z) m = x :: joinJ (stepJ o z) m
  rw [stepJ_cons (h z (List.mem_cons_self ..)), joinJ_cons fun y hy => h y (List.mem_cons_of_mem _ hy)]
theorem findIdx_none {d : Dot} {l : List Node} (h : ∀ z ∈ l, z.f0 ≠ d) : l.findIdx? (dotIs d) = none := by
 rw [List.findIdx?_eq_none_iff]
 intro z hz
 exact jis_no (x := ⟨d, d, 0, 0⟩) (h z hz)
theorem stepJ_front {y : Node} {l : List Node} (h : ∀ z ∈ l, dotLt y.f0 z.f0 = true) : stepJ l y = y :: l := by
 unfold stepJ
 rw [findIdx_none fun z hz e => (dne (h z hz)) e.symm]
 cases l with
 | nil => rfl
 | cons a l => simp [insP, dotLt_asymm (h a (List.mem_cons_self ..))]
theorem agreeL_front {y : Node} {l m : List Node} (h : ∀ z ∈ l, dotLt y.f0 z.f0 = true) : agreeL l (y :: m) = agreeL l m := by
 unfold agreeL
 rw [Bool.eq_iff_iff, List.all_eq_true, List.all_eq_true]
 refine forall_congr' fun x => forall_congr' fun hx => ?_
 rw [List.findIdx?_cons, jis_no (x := x) (dne (h x hx))]
 cases m.findIdx? (dotIs x.f0) <;> simp
theorem agreeL_none {x : Node} {l m : List Node} (h : ∀ z ∈ m, dotLt x.f0 z.f0 = true) : agreeL (x :: l) m = agreeL l m := by
 unfold agreeL
 rw [List.all_cons, findIdx_none fun z hz e => (dne (h z hz)) e.symm]
 simp
theorem mergeN_is {x y : Node} (e : x.f0 = y.f0) : mergeN x y = if agreeJ x y = true then some (mergeJ x y) else none := by
 unfold mergeJ
 by_cases h : agreeJ x y = true
 ·
  rw [if_pos h, if_pos h]
  unfold agreeJ at h
  obtain ⟨_, h1, h2, h3⟩ := of_decide_eq_true h
  unfold mergeN
  rw [if_pos ⟨h1, h2, by omega⟩]
 ·
  rw [if_neg h]
  unfold mergeN
  rw [if_neg fun ⟨h1, h2, h3⟩ => h (decide_eq_true ⟨e, h1, h2, by omega⟩)]
theorem mergeJ_dot {x y : Node} (h : agreeJ x y = true) : (mergeJ x y).f0 = x.f0 ∧ (mergeJ x y = x ∨ mergeJ x y = y) := by
 unfold mergeJ
 rw [if_pos h]
 have e := (of_decide_eq_true h).1
 by_cases k : y.f3 = 0
 ·
  rw [if_pos k]; exact ⟨e.symm, .inr rfl⟩
 ·
  rw [if_neg k]; exact ⟨rfl, .inl rfl⟩
theorem joinOf_is : ∀ (q : Nat) {l m : List Node}, l.length + m.length ≤ q → Inc l → Inc m → joinOf l m = if agreeL l m = true then some (joinJ l m) else none := by
 intro q
 induction q with
 | zero =>
  intro l m h _ _
  obtain rfl : l = [] := List.eq_nil_of_length_eq_zero (by omega)
  obtain rfl : m = [] := List.eq_nil_of_length_eq_zero (by omega)
  rfl
 | succ q ih =>
  intro l m h hl hm
  cases m with
  | nil =>
   have e : agreeL l [] = true := by unfold agreeL; simp
   rw [joinOf_nil2, if_pos e]
   rfl
  | cons y m =>
   cases l with
   | nil =>
    rw [joinOf_nil, if_pos (show agreeL [] (y :: m) = true from rfl)]
    have : ∀ {m : List Node}, Inc m → joinJ [] m = m := by
     intro m
     induction m with
     | nil => intro _; rfl
     | cons z m ih =>
      intro hz
      show joinJ (stepJ [] z) m = z :: m
      rw [show stepJ [] z = [z] from rfl, joinJ_cons fun u hu => (List.pairwise_cons.1 hz).1 u hu, ih (List.pairwise_cons.1 hz).2]
    rw [this hm]
   | cons x l =>
    simp only [List.length_cons] at h
    obtain ⟨hx, hl'⟩ := List.pairwise_cons.1 hl
    obtain ⟨hy, hm'⟩ := List.pairwise_cons.1 hm
    rw [joinOf_cons]
    by_cases h1 : dotLt x.f0 y.f0 = true
    ·
     have hall : ∀ z ∈ y :: m, dotLt x.f0 z.f0 = true := fun z hz => by
      rcases List.mem_cons.1 hz with rfl | hz
      ·
       exact h1
      ·
       exact dotLt_trans h1 (hy z hz)
     rw [if_pos h1, ih (by simp only [List.length_cons]; omega) hl' hm, agreeL_none hall, joinJ_cons hall]
     by_cases g : agreeL l (y :: m) = true
     ·
      rw [if_pos g, if_pos g]; rfl
     ·
      rw [if_neg g, if_neg g]; rfl
    ·
     rw [if_neg h1]
     by_cases h2 : dotLt y.f0 x.f0 = true
     ·
      have hall : ∀ z ∈ x :: l, dotLt y.f0 z.f0 = true := fun z hz => by
       rcases List.mem_cons.1 hz with rfl | hz
       ·
        exact h2
       ·
        exact dotLt_trans h2 (hx z hz)
      rw [if_pos h2, ih (by simp only [List.length_cons]; omega) hl hm', agreeL_front hall]
      have e : joinJ (x :: l) (y :: m) = y :: joinJ (x :: l) m := by
       show joinJ (stepJ (x :: l) y) m = _
       rw [stepJ_front hall, joinJ_cons hy]
      rw [e]
      by_cases g : agreeL (x :: l) m = true
      ·
       rw [if_pos g, if_pos g]; rfl
      ·
       rw [if_neg g, if_neg g]; rfl
     ·
      rw [if_neg h2]
      have e : x.f0 = y.f0 := dotLt_total (Bool.eq_false_iff.2 h1) (Bool.eq_false_iff.2 h2)
      have hf : (y :: m).findIdx? (dotIs x.f0) = some 0 := by
       rw [List.findIdx?_cons, show dotIs x.f0 y = true by rw [e]; exact jis_self y]; rfl
      have hf2 : (x :: l).findIdx? (dotIs y.f0) = some 0 := by
       rw [List.findIdx?_cons, show dotIs y.f0 x = true by rw [← e]; exact jis_self x]; rfl
      have hag : agreeL (x :: l) (y :: m) = (agreeJ x y && agreeL l m) := by
       rw [← agreeL_front (y := y) (l := l) (m := m) (fun z hz => by rw [← e]; exact hx z hz)]
       unfold agreeL
       rw [List.all_cons, hf]
       rfl
      have hj : joinJ (x :: l) (y :: m) = joinJ (mergeJ x y :: l) m := by
       show joinJ (stepJ (x :: l) y) m = _
       unfold stepJ
       rw [hf2]
       rfl
      rw [hag, hj, mergeN_is e]
      cases ha : agreeJ x y with
      | false => rfl
      | true =>
       rw [joinJ_cons (fun z hz => by rw [(mergeJ_dot ha).1, e]; exact hy z hz), ih (by omega) hl' hm']
       simp only [if_true, Bool.true_and, Option.bind_some]
       by_cases g : agreeL l m = true
       ·
        rw [if_pos g, if_pos g]; rfl
       ·
        rw [if_neg g, if_neg g]; rfl
theorem joinOf_mem : ∀ (q : Nat) {l m r : List Node}, l.length + m.length ≤ q → joinOf l m = some r → Inc l → Inc m → Inc r ∧ (∀ z ∈ r, z ∈ l ∨ z ∈ m) ∧ r.length ≤ l.length + m.length := by
 intro q
 induction q with
 | zero =>
  intro l m r h e _ _
  obtain rfl : l = [] := List.eq_nil_of_length_eq_zero (by omega)
  obtain rfl : m = [] := List.eq_nil_of_length_eq_zero (by omega)
  cases e
  exact ⟨List.Pairwise.nil, fun z hz => .inl hz, Nat.le_refl _⟩
 | succ q ih =>
  intro l m r h e hl hm
  cases m with
  | nil => rw [joinOf_nil2] at e; cases e; exact ⟨hl, fun z hz => .inl hz, by simp⟩
  | cons y m =>
   cases l with
   | nil => rw [joinOf_nil] at e; cases e; exact ⟨hm, fun z hz => .inr hz, by simp⟩
   | cons x l =>
    simp only [List.length_cons] at h
    obtain ⟨hx, hl'⟩ := List.pairwise_cons.1 hl
    obtain ⟨hy, hm'⟩ := List.pairwise_cons.1 hm
    rw [joinOf_cons] at e
    by_cases h1 : dotLt x.f0 y.f0 = true
    ·
     rw [if_pos h1] at e
     obtain ⟨r', e', rfl⟩ := Option.map_eq_some_iff.1 e
     obtain ⟨g1, g2, g3⟩ := ih (by simp only [List.length_cons]; omega) e' hl' hm
     refine ⟨List.pairwise_cons.2 ⟨fun z hz => ?_, g1⟩, fun z hz => ?_, by simp only [List.length_cons] at g3 ⊢; omega⟩
     ·
      rcases g2 z hz with hz | hz
      ·
       exact hx z hz
      ·
       rcases List.mem_cons.1 hz with rfl | hz
       ·
        exact h1
       ·
        exact dotLt_trans h1 (hy z hz)
     ·
      rcases List.mem_cons.1 hz with rfl | hz
      ·
       exact .inl (List.mem_cons_self ..)
      ·
       exact (g2 z hz).imp (List.mem_cons_of_mem _) id
    ·
     rw [if_neg h1] at e
     by_cases h2 : dotLt y.f0 x.f0 = true
     ·
      rw [if_pos h2] at e
      obtain ⟨r', e', rfl⟩ := Option.map_eq_some_iff.1 e
      obtain ⟨g1, g2, g3⟩ := ih (by simp only [List.length_cons]; omega) e' hl hm'
      refine ⟨List.pairwise_cons.2 ⟨fun z hz => ?_, g1⟩, fun z hz => ?_, by simp only [List.length_cons] at g3 ⊢; omega⟩
      ·
       rcases g2 z hz with hz | hz
       ·
        rcases List.mem_cons.1 hz with rfl | hz
        ·
         exact h2
        ·
         exact dotLt_trans h2 (hx z hz)
       ·
        exact hy z hz
      ·
       rcases List.mem_cons.1 hz with rfl | hz
       ·
        exact .inr (List.mem_cons_self ..)
       ·
        exact (g2 z hz).imp id (List.mem_cons_of_mem _)
     ·
      rw [if_neg h2] at e
      have ee : x.f0 = y.f0 := dotLt_total (Bool.eq_false_iff.2 h1) (Bool.eq_false_iff.2 h2)
      obtain ⟨u, hu, e⟩ := Option.bind_eq_some_iff.1 e
      obtain ⟨r', e', rfl⟩ := Option.map_eq_some_iff.1 e
      obtain ⟨g1, g2, g3⟩ := ih (by omega) e' hl' hm'
      have hu2 : u.f0 = x.f0 ∧ (u = x ∨ u = y) := by
       rw [mergeN_is ee] at hu
       by_cases ha : agreeJ x y = true
       ·
        rw [if_pos ha] at hu; cases hu; exact mergeJ_dot ha
       ·
        rw [if_neg ha] at hu; cases hu
      refine ⟨List.pairwise_cons.2 ⟨fun z hz => ?_, g1⟩, fun z hz => ?_, by simp only [List.length_cons]; omega⟩
      ·
       rw [hu2.1]
       rcases g2 z hz with hz | hz
       ·
        exact hx z hz
       ·
        rw [ee]; exact hy z hz
      ·
       rcases List.mem_cons.1 hz with rfl | hz
       ·
        rcases hu2.2 with rfl | rfl
        ·
         exact .inl (List.mem_cons_self ..)
        ·
         exact .inr (List.mem_cons_self ..)
       ·
        exact (g2 z hz).imp (List.mem_cons_of_mem _) (List.mem_cons_of_mem _)
theorem store_inc {l : List Node} (h : zak l = true) : Inc l := by
 unfold zak at h
 rw [Bool.and_eq_true] at h
 exact inc_of h.2
/-- The join of two stores that agree is a store. -/
theorem join_store {l m : List Node} (hl : zak l = true) (hm : zak m = true) (ha : agreeL l m = true) : joinOf l m = some (joinJ l m) ∧ zak (joinJ l m) = true ∧ (joinJ l m).length ≤ l.length + m.length := by
 have e : joinOf l m = some (joinJ l m) := by rw [joinOf_is _ (Nat.le_refl _) (store_inc hl) (store_inc hm), if_pos ha]
 obtain ⟨g1, g2, g3⟩ := joinOf_mem _ (Nat.le_refl _) e (store_inc hl) (store_inc hm)
 refine ⟨e, ?_, g3⟩
 unfold zak at hl hm ⊢
 rw [Bool.and_eq_true, List.all_eq_true] at hl hm ⊢
 exact ⟨fun z hz => (g2 z hz).elim (hl.1 z) (hm.1 z), incB_mk g1⟩
theorem join_clash {l m : List Node} (hl : zak l = true) (hm : zak m = true) (ha : agreeL l m = false) : joinOf l m = none := by
 rw [joinOf_is _ (Nat.le_refl _) (store_inc hl) (store_inc hm), if_neg (by rw [ha]; decide)]
end
section
/-- Whether a node stands on the root, or on an older node. -/
def goodJ (l : List Node) (x : Node) : Bool := dotRoot x.f1 || match l.findIdx? (dotIs x.f1) with | some k => decide ((l.getD k nodeZ).f2 < x.f2) | none => false
theorem jwell_from (l : List Node) (hl : l.length ≤ 400000) : ∀ (q k i : Nat), i + q = l.length → q + l.length + 1 < k → redpencilref14_Well.l0 k l (i : Int) = some ((l.drop i).all (goodJ l)) := by
 intro q
 induction q with
 | zero =>
  intro k i hi hk
  obtain ⟨k, rfl⟩ : ∃ m, k = m + 1 := ⟨k - 1, by omega⟩
  simp only [redpencilref14_Well.l0]
  rw [if_neg (by omega), List.drop_of_length_le (by omega)]
  rfl
 | succ q ih =>
  intro k i hi hk
  obtain ⟨k, rfl⟩ : ∃ m, k = m + 1 := ⟨k - 1, by omega⟩
  have hlt : i < l.length := by omega
  simp only [redpencilref14_Well.l0]
  rw [if_pos (by omega), if_pos (by omega), rdN hlt, wrap_succ hlt (by omega), List.drop_eq_getElem_cons hlt, List.all_cons, jfind_is l (by omega) l[i].f1 (by omega), ih k (i + 1) (by omega) (by omega), Option.bind_some]
  have er : (l[i].f1.f0 == 0 && l[i].f1.f1 == 0) = dotRoot l[i].f1 := by unfold dotRoot; rw [Bool.eq_iff_iff]; simp
  rw [er]
  unfold goodJ idxFrom
  cases hr : dotRoot l[i].f1 with
  | true => rw [if_pos rfl]; simp
  | false =>
   rw [if_neg (by decide), Bool.false_or]
   cases hf : l.findIdx? (dotIs l[i].f1) with
   | none => rfl
   | some j =>
    have hj : j < l.length := (List.findIdx?_eq_some_iff_getElem.1 hf).1
    dsimp only
    rw [if_neg (by omega), if_pos (by omega), if_pos (by omega), rdN hj]
    have e : l.getD j nodeZ = l[j] := by simp [List.getD, hj]
    rw [e]
    by_cases ht : l[j].f2 ≥ l[i].f2
    ·
     rw [if_pos ht, decide_eq_false (by omega)]; rfl
    ·
     rw [if_neg ht, decide_eq_true (by omega)]; simp
theorem good_iff {l : List Node} (hi : Inc l) {x : Node} : goodJ l x = true ↔ (dotRoot x.f1 = true ∨ ∃ p ∈ l, p.f0 = x.f1 ∧ p.f2 < x.f2) := by
 have hd : ∀ (p : Node) (d : Dot), dotIs d p = true ↔ p.f0 = d := fun p d => by
  unfold dotIs
  cases hp : p.f0; cases d
  simp
 unfold goodJ
 rw [Bool.or_eq_true]
 refine or_congr Iff.rfl ?_
 cases hf : l.findIdx? (dotIs x.f1) with
 | none =>
  rw [List.findIdx?_eq_none_iff] at hf
  constructor
  ·
   intro h; cases h
  ·
   rintro ⟨p, hp, e, _⟩
   have := hf p hp
   rw [(hd p x.f1).2 e] at this
   cases this
 | some j =>
  obtain ⟨hj, h1, _⟩ := List.findIdx?_eq_some_iff_getElem.1 hf
  have e : l.getD j nodeZ = l[j] := by simp [List.getD, hj]
  dsimp only
  rw [e, decide_eq_true_eq]
  constructor
  ·
   intro h; exact ⟨l[j], List.getElem_mem hj, (hd _ _).1 h1, h⟩
  ·
   rintro ⟨p, hp, e2, h2⟩
   obtain ⟨i, hi2⟩ := List.getElem?_of_mem hp
   have := inc_unique hi hi2 (List.getElem?_eq_getElem hj) (e2.trans ((hd _ _).1 h1).symm)
   subst this
   rw [List.getElem?_eq_getElem hj] at hi2
   cases hi2
   exact h2
theorem well_good {l : List Node} (hs : zak l = true) : wellB l = l.all (goodJ l) := by
 have S := store_of hs
 unfold wellB
 rw [Bool.eq_iff_iff, List.isEmpty_iff, List.all_eq_true]
 constructor
 ·
  intro h x hx
  obtain ⟨i, hi⟩ := List.getElem?_of_mem hx
  exact (good_iff S.inc).2 ((flaw_zero S.ok S.inc hi).1 (faults_none h i (List.getElem?_eq_some_iff.1 hi).1))
 ·
  intro h
  refine faultsUpto_nil fun i hi => ?_
  have hx := List.getElem?_eq_getElem hi
  exact (flaw_zero S.ok S.inc hx).2 ((good_iff S.inc).1 (h _ (List.getElem_mem hi)))
theorem jwell_is {l : List Node} (hl : l.length ≤ 400000) {k : Nat} (hk : l.length + l.length + 1 < k) : redpencilref14_Well.f k l = some (wellB l) := by
 unfold redpencilref14_Well.f redpencilref14_Store.f
 rw [if_pos hl, Option.bind_some]
 by_cases h : zak l = true
 ·
  rw [if_pos h, well_good h]
  exact jwell_from l hl l.length k 0 (by omega) hk
 ·
  rw [if_neg h]
  unfold wellB
  cases hf : (faultsOf l).isEmpty with
  | false => rfl
  | true => exact absurd (well_store (List.isEmpty_iff.1 hf)) h
theorem stepJ_le (o : List Node) (y : Node) : (stepJ o y).length ≤ o.length + 1 := by
 unfold stepJ
 cases o.findIdx? (dotIs y.f0) with
 | none => exact Nat.le_of_eq (insP_length y o)
 | some k => simp
theorem joinJ_le : ∀ (m o : List Node), (joinJ o m).length ≤ o.length + m.length
 | [], o => Nat.le_refl _
 | y :: m, o => by
  have h1 := joinJ_le m (stepJ o y)
  have h2 := stepJ_le o y
  show (joinJ (stepJ o y) m).length ≤ _
  rw [List.length_cons]
  omega
theorem joinJ_snoc (o m : List Node) (x : Node) : joinJ (joinJ o m) [x] = joinJ o (m ++ [x]) := by unfold joinJ; rw [List.foldl_append]
/-- What the reference of a replacement answers. -/
def replJ (l : List Node) (d : Dot) (a n : Int) (rs : List Int) : List Node × Int :=
 if errE l d a n rs ≠ 0 then ([], errE l d a n rs) else if busyE l d rs.length = true then ([], 11) else (joinJ (joinJ [] ((cutV l a n).map deadN)) (chainE d (leftE l a) (lastOf l) rs), 0)
theorem firstE_hit {e : Int} {r : List Int} (h : e ≠ 0) : firstE (e :: r) = e := by rw [firstE, if_neg h]
theorem firstE_skip {e : Int} {r : List Int} (h : e = 0) : firstE (e :: r) = firstE r := by rw [firstE, if_pos h]
section
variable {l : List Node} {d : Dot} {a n : Int} {rs : List Int} (hw : wellB l = true) (hd : dotOk d = true)
include hw hd
variable (hs : spanE l a n = 0)
include hs
variable (hn : ¬ n > 10000) (hm : ¬ (rs.length : Int) > 10000)
include hn hm
variable (hr : ∀ r ∈ rs, runeOk r = true)
include hr
theorem err_last : errE l d a n rs = if (decide (d.f1 > 4294967296 - (rs.length : Int)) || decide (lateE l > 4611686018427387904 - (rs.length : Int))) = true then 14 else 0 := by
 have e1 : wrap64 (wrap64 (4294967295 - (rs.length : Int)) + 1) = 4294967296 - (rs.length : Int) := by unfold wrap64; omega
 have e2 : wrap64 (4611686018427387904 - (rs.length : Int)) = 4611686018427387904 - (rs.length : Int) := by unfold wrap64; omega
 have e3 : ¬ (rs.any fun r => !runeOk r) = true := fun h => by
  obtain ⟨r, h1, h2⟩ := List.any_eq_true.1 h
  rw [hr r h1] at h2
  cases h2
 unfold errE
 rw [if_neg (by rw [hw, hd]; decide), firstE_skip rfl, firstE_skip hs, if_neg (by rw [decide_eq_false hn, decide_eq_false hm]; decide), firstE_skip rfl, if_neg e3, firstE_skip rfl, e1, e2]
 by_cases h : (decide (d.f1 > 4294967296 - (rs.length : Int)) || decide (lateE l > 4611686018427387904 - (rs.length : Int))) = true
 ·
  rw [if_pos h, firstE_hit (by decide)]
 ·
  rw [if_neg h, firstE_skip rfl]; rfl
theorem err0 (h : ¬ d.f1 > 4294967296 - (rs.length : Int)) (h2 : ¬ lateE l > 4611686018427387904 - (rs.length : Int)) : errE l d a n rs = 0 := by
 rw [err_last hw hd hs hn hm hr, if_neg (by rw [decide_eq_false h, decide_eq_false h2]; decide)]
end
theorem span0 {l : List Node} {a n : Int} (hw : wellB l = true) (h : ¬ (a < 0 ∨ n < 0 ∨ a > ((visOf l).length : Int) ∨ n > ((visOf l).length : Int) - a)) : spanE l a n = 0 := by
 unfold spanE
 rw [if_pos (List.isEmpty_iff.1 hw), if_neg h]
theorem rang_succ {g : List Node} {d p : Dot} {t : Int} {rs : List Int} {k : Nat} {x : Node} (h : nodeE d p t rs k = x) : joinJ (joinJ g ((List.range k).map (nodeE d p t rs))) [x] = joinJ g ((List.range (k + 1)).map (nodeE d p t rs)) := by
 rw [List.range_succ, List.map_append, List.map_cons, List.map_nil, h, joinJ_snoc]
end
end Go.Proofs.YtmbndijbpgobeaaGreat.PWalk
end
