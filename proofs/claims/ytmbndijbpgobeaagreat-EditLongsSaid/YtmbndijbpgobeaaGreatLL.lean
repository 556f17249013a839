/-
  The law EditLongs returns true for every number and every rune, and leaves its input as it was: as many runes as may be inserted and deleted at once, and one more. Part 12 of 12.
-/
import Derived.Test.YtmbndijbpgobeaaGreatLK
import Derived.Laws.Tables
import Derived.Test.YtmbndijbpgobeaaGreatRows
import Derived.WalkKit
import Derived.ProofKit
import Derived.OpenShut
import Derived.ShutString
import Derived.ChangeOld
import Derived.Below
import Derived.SizedLaws
import Derived.Deep.DeepHandedRow
import Derived.Deep.Slices
import Derived.Lib.SmallJoins
section
namespace Go.Proofs.YtmbndijbpgobeaaGreat.PWalk
open Go.RowKit Go.Proofs.YtmbndijbpgobeaaGreatW.PrintWords Go.Proofs.YtmbndijbpgobeaaGreatW.PrintLast Go.Proofs.YtmbndijbpgobeaaGreatW.PrintMore
set_option linter.unusedVariables false
set_option linter.unusedSimpArgs false
open Go.Shelf
attribute [local go_sem] Oper.semAt_some
theorem run_runes {W : World} {A0 : Option Addr} {c0 : Nat} {l0 : List Int} (hC : Kd.C (Kd.int .i32) W A0 l0.length l0) : (convert 26 9 (.slice A0 l0.length c0)).run Tryz.prog W = .ok (.string (runesBytes l0)) W := by
 by_cases h0 : 0 < l0.length
 ·
  obtain ⟨x, hx⟩ : ∃ x, l0[0]? = some x := ⟨_, List.getElem?_eq_getElem h0⟩
  obtain ⟨ad, rfl, _⟩ := rune_at hC (Below.refl _ W) 0 x hx
  have := run_convert_runes (P := Tryz.prog) W 26 9 21 ad l0.length c0 l0 (Nat.le_refl _) Tryz.underlying26 Tryz.underlying21 Tryz.underlying9 (fun j hj => by
   obtain ⟨ad2, e2, hc⟩ := rune_at hC (Below.refl _ W) j l0[j] (List.getElem?_eq_getElem hj)
   cases e2
   rw [hc]; simp [List.getD, hj])
  rw [List.take_length] at this
  exact this
 ·
  obtain rfl : l0 = [] := List.eq_nil_of_length_eq_zero (by omega)
  cases A0 with
  | none => exact run_convert_runes_nil (P := Tryz.prog) W 26 9 21 _ _ Tryz.underlying26 Tryz.underlying21 Tryz.underlying9
  | some ad => exact run_convert_runes (P := Tryz.prog) W 26 9 21 ad 0 c0 [] (Nat.le_refl _) Tryz.underlying26 Tryz.underlying21 Tryz.underlying9 (fun j hj => absurd hj (Nat.not_lt_zero _))
theorem texts_call (k : Nat) (A0 : Option Addr) (c0 : Nat) (l0 : List Node) (A1 : Option Addr) (c1 : Nat) (l1 : List Node) (want : ByteArray) (x : List Node) (rs : List Int) (w : World) (hr0 : Kd.C k53 w A0 l0.length l0) (hc0 : l0.length ≤ c0) (hr1 : Kd.C k53 w A1 l1.length l1) (hc1 : l1.length ≤ c1) (h : edit_Apply.f k l0 l1 = some (x, rs, 0)) (hw : runesBytes rs = want) :
  Calls Tryz.prog 36 #[.slice A0 l0.length c0, .slice A1 l1.length c1, .string want] w fun e w' => e = .returned (.bool true) ∧ Below w.heap.size w w' := by
 have HA := Aside0.mk (edit_Apply.calls k A0 c0 l0 A1 c1 l1 x rs 0 w hr0 hc0 hr1 hc1 h)
 have HW := Aside0.mk hw
 clear hr0 hc0 hr1 hc1 h hw
 go_enter Tryz.func36, Tryz.ntmps36
 go_wp2_with fail
 refine HA.out.mono ?_
 rintro e V ⟨v0, v1, rfl, hr0, hr1, hb⟩
 obtain ⟨A2, c2, rfl⟩ := Kd.R_slice hr1
 have hcv := run_runes (c0 := c2) (Kd.R_reads' hr1).2.2
 rw [HW.out] at hcv
 have HB := Aside0.mk hb
 clear hr0 hr1 hb HA
 go_wp2_with fail
 go_ret
 exact ⟨rfl, HB.out⟩
theorem grown_cell {V W : World} {g : Nat} (h : V.grownBy W (some g)) (j : Nat) (u : Value) : V.grownBy (W.setCell ⟨g, j, none⟩ u) (some g) :=
 ⟨h.os, h.tape, h.output, by rw [World.size_setCell]; exact h.size, fun k hk hne => (Below.heap_setCell W _ u k (fun e => hne (by rw [e]))).trans (h.block k hk hne)⟩
theorem nilNs {W : World} : Kd.C k53 W none 0 ([] : List Node) := ⟨rfl, by decide, fun h => absurd h (by decide)⟩
/-- What lies ready for the calls of known. -/
structure K15 (w : World) (gS gX gZ g6 : Nat) (V : World) : Prop where
 below : Below w.heap.size w V
 s : Kd.C k53 V (some ⟨gS, 0, none⟩) 3 [xA, xB, xC]
 x : Kd.C k53 V (some ⟨gX, 0, none⟩) 2 [xX, xY]
 z : Kd.C k53 V (some ⟨gZ, 0, none⟩) 3 [xG, xZ, xL]
 also : V.heap[g6]? = some (boxN xL)
theorem K15.more {w : World} {gS gX gZ g6 : Nat} {V V' : World} (h : K15 w gS gX gZ g6 V) (hb : Below V.heap.size V V') : K15 w gS gX gZ g6 V' := ⟨below_more h.below hb, Kd.C_below h.s hb, Kd.C_below h.x hb, Kd.C_below h.z hb, blk_keep h.also hb⟩
/-- Two copies come up. -/
structure K5 (W0 : World) (l2 l3 l4 l5 : Bool) (g5 g6 : Nat) (V : World) : Prop where
 ord4 : l4 = true → l2 = true
 ord5 : l5 = true → l3 = true
 below : Below W0.heap.size W0 V
 z5 : l2 = true → l4 = false → V.heap[g5]? = some boxZ
 x5 : l4 = true → V.heap[g5]? = some (boxN xA)
 z6 : l3 = true → l5 = false → V.heap[g6]? = some boxZ
 x6 : l5 = true → V.heap[g6]? = some (boxN xC)
 ge5 : l2 = true → W0.heap.size ≤ g5
 ge6 : l3 = true → W0.heap.size ≤ g6
 ne : l2 = true → l3 = true → g5 ≠ g6
structure K8 (W0 : World) (l4 l5 : Bool) (gZ : Nat) (V : World) : Prop where
 below : Below W0.heap.size W0 V
 z : l4 = true → RN V W0.heap.size (.slice (some ⟨gZ, 0, none⟩) 3 3) [xG, xZ, xL]
 ord : l5 = true → l4 = true
def kf5Inv (W0 : World) (gA gC : Nat) (z0 z2 z4 z5 z6 z7 z8 z9 z10 z11 z12 z13 z14 z15 z16 z17 z18 z19 z20 z21 z22 z23 z24 z25 z26 z27 z28 z29 z30 z31 z32 z33 z34 z35 z36 z37 z38 z39 z40 z41 z42 z43 z44 z45 z46 z47 z48 z49 z50 z51 z52 z53 z54 z55 z56 z57 z58 z59 z60 z61 z62 z63 z64 z65 z66 z67 z68 z69 z70 z71 z72 z73 z74 z75 z76 z77 z78 z79 z80 z81 z82 z83 z84 z85 z86 z87 z88 z89 z90 z91 z92 z93 z94 z95 z96 z97 z98 z99 z100 z101 z102 : Value) (L : Array Bool) (ac : Act) (V : World) : Prop := ∃ (l0 l1 l2 l3 l4 l5 : Bool) (g5 : Nat) (g6 : Nat), L = #[l0, l1, l2, l3, l4, l5] ∧ ac = { tmps := #[z0, .pointer (some ⟨gA, 0, none⟩), z2, .pointer (some ⟨gC, 0, none⟩), z4, selv l2 (.pointer (some ⟨g5, 0, none⟩)) (z5), selv l3 (.pointer (some ⟨g6, 0, none⟩)) (z6), z7, z8, z9, z10, z11, z12, z13, z14, z15, z16, z17, z18, z19, z20, z21, selv l0 (vNode xA) (z22), selv l1 (vNode xC) (z23), z24, z25, z26, z27, z28, z29, z30, z31, z32, z33, z34, z35, z36, z37, z38, z39, z40, z41, z42, z43, z44, z45, z46, z47, z48, z49, z50, z51, z52, z53, z54, z55, z56, z57, z58, z59, z60, z61, z62, z63, z64, z65, z66, z67, z68, z69, z70, z71, z72, z73, z74, z75, z76, z77, z78, z79, z80, z81, z82, z83, z84, z85, z86, z87, z88, z89, z90, z91, z92, z93, z94, z95, z96, z97, z98, z99, z100, z101, z102], defers := [] } ∧ Aside0 (K5 W0 l2 l3 l4 l5 g5 g6 V)
def kf8Inv (W0 : World) (g5 g6 : Nat) (z0 z1 z2 z3 z4 z7 z8 z9 z10 z11 z12 z13 z14 z15 z16 z17 z18 z19 z20 z21 z22 z23 z24 z25 z26 z27 z28 z29 z30 z31 z32 z33 z34 z35 z36 z37 z38 z39 z40 z41 z42 z43 z44 z45 z46 z47 z48 z49 z50 z51 z52 z53 z54 z55 z56 z57 z58 z59 z60 z61 z62 z63 z64 z65 z66 z67 z68 z69 z70 z71 z72 z73 z74 z75 z76 z77 z78 z79 z80 z81 z82 z83 z84 z85 z86 z87 z88 z89 z90 z91 z92 z93 z94 z95 z96 z97 z98 z99 z100 z101 z102 : Value) (L : Array Bool) (ac : Act) (V : World) : Prop := ∃ (l0 l1 l2 l3 l4 l5 : Bool) (gZ : Nat), L = #[l0, l1, l2, l3, l4, l5] ∧ ac = { tmps := #[z0, z1, z2, z3, z4, .pointer (some ⟨g5, 0, none⟩), .pointer (some ⟨g6, 0, none⟩), z7, selv l5 (.slice (some ⟨gZ, 0, none⟩) 3 3) (z8), z9, z10, z11, z12, z13, z14, z15, z16, z17, z18, z19, z20, z21, z22, z23, z24, z25, z26, z27, z28, z29, z30, z31, z32, selv l0 (vNode xG) (z33), selv l1 (vDot ⟨2, 1⟩) (z34), selv l2 (vNode xZ) (z35), selv l3 (vNode xL) (z36), selv l4 (.slice (some ⟨gZ, 0, none⟩) 3 3) (z37), z38, z39, z40, z41, z42, z43, z44, z45, z46, z47, z48, z49, z50, z51, z52, z53, z54, z55, z56, z57, z58, z59, z60, z61, z62, z63, z64, z65, z66, z67, z68, z69, z70, z71, z72, z73, z74, z75, z76, z77, z78, z79, z80, z81, z82, z83, z84, z85, z86, z87, z88, z89, z90, z91, z92, z93, z94, z95, z96, z97, z98, z99, z100, z101, z102], defers := [] } ∧ Aside0 (K8 W0 l4 l5 gZ V)
set_option maxHeartbeats 4000000 in
set_option maxRecDepth 100000 in
theorem known15_call (w : World) : Calls Tryz.prog 10 #[] w fun e w' => e = .returned (.bool true) ∧ Below w.heap.size w w' := by
 have hu := Tryz.underlying53
 have hu2 := Tryz.underlying25
 go_enter Tryz.func10, Tryz.ntmps10
 have HB : Aside0 (Below w.heap.size w w) := ⟨Below.refl _ _⟩
 go_wp2_with fail
 refine (redpencillaw15_dot.calls 1 1 1 1 _ rfl).mono ?_
 rintro e V1 ⟨rfl, hb⟩
 have HB := Aside0.mk (below_more HB.out hb)
 clear hb
 have hb0 := below_alloc (Below.refl V1.heap.size V1) (boxN xA)
 have H1 := Aside0.mk (blk_new V1 (boxN xA))
 have HB := Aside0.mk (below_more HB.out hb0)
 clear hb0
 go_wp2_with fail
 refine (redpencillaw15_dot.calls 1 2 1 2 (V1.alloc (boxN xA)) rfl).mono ?_
 rintro e V2 ⟨rfl, hb⟩
 have H1 := Aside0.mk (blk_keep H1.out hb)
 have HB := Aside0.mk (below_more HB.out hb)
 clear hb
 go_wp2_with fail
 refine (redpencillaw15_dot.calls 1 1 1 1 V2 rfl).mono ?_
 rintro e V3 ⟨rfl, hb⟩
 have H1 := Aside0.mk (blk_keep H1.out hb)
 have HB := Aside0.mk (below_more HB.out hb)
 clear hb
 have hb0 := below_alloc (Below.refl V3.heap.size V3) (boxN xB)
 have H2 := Aside0.mk (blk_new V3 (boxN xB))
 have H1 := Aside0.mk (blk_keep H1.out hb0)
 have HB := Aside0.mk (below_more HB.out hb0)
 clear hb0
 go_wp2_with fail
 refine (redpencillaw15_dot.calls 1 3 1 3 (V3.alloc (boxN xB)) rfl).mono ?_
 rintro e V4 ⟨rfl, hb⟩
 have H1 := Aside0.mk (blk_keep H1.out hb)
 have H2 := Aside0.mk (blk_keep H2.out hb)
 have HB := Aside0.mk (below_more HB.out hb)
 clear hb
 go_wp2_with fail
 refine (redpencillaw15_dot.calls 1 2 1 2 V4 rfl).mono ?_
 rintro e V5 ⟨rfl, hb⟩
 have H1 := Aside0.mk (blk_keep H1.out hb)
 have H2 := Aside0.mk (blk_keep H2.out hb)
 have HB := Aside0.mk (below_more HB.out hb)
 clear hb
 have hb0 := below_alloc (Below.refl V5.heap.size V5) (boxN xC)
 have H3 := Aside0.mk (blk_new V5 (boxN xC))
 have H1 := Aside0.mk (blk_keep H1.out hb0)
 have H2 := Aside0.mk (blk_keep H2.out hb0)
 have HB := Aside0.mk (below_more HB.out hb0)
 clear hb0
 have a0 : (V5.alloc (.cells #[.int .i64 1, .int .i64 3, .int .i64 1, .int .i64 2, .int .i64 3, .int .i32 99] 53 (0, 0) : Obj)).cell? ⟨V1.heap.size, 0, none⟩ = some (.int .i64 1) := (blk_cell H1.out 0).trans rfl
 have a1 : (V5.alloc (.cells #[.int .i64 1, .int .i64 3, .int .i64 1, .int .i64 2, .int .i64 3, .int .i32 99] 53 (0, 0) : Obj)).cell? ⟨V1.heap.size, 1, none⟩ = some (.int .i64 1) := (blk_cell H1.out 1).trans rfl
 have a2 : (V5.alloc (.cells #[.int .i64 1, .int .i64 3, .int .i64 1, .int .i64 2, .int .i64 3, .int .i32 99] 53 (0, 0) : Obj)).cell? ⟨V1.heap.size, 2, none⟩ = some (.int .i64 0) := (blk_cell H1.out 2).trans rfl
 have a3 : (V5.alloc (.cells #[.int .i64 1, .int .i64 3, .int .i64 1, .int .i64 2, .int .i64 3, .int .i32 99] 53 (0, 0) : Obj)).cell? ⟨V1.heap.size, 3, none⟩ = some (.int .i64 0) := (blk_cell H1.out 3).trans rfl
 have a4 : (V5.alloc (.cells #[.int .i64 1, .int .i64 3, .int .i64 1, .int .i64 2, .int .i64 3, .int .i32 99] 53 (0, 0) : Obj)).cell? ⟨V1.heap.size, 4, none⟩ = some (.int .i64 1) := (blk_cell H1.out 4).trans rfl
 have a5 : (V5.alloc (.cells #[.int .i64 1, .int .i64 3, .int .i64 1, .int .i64 2, .int .i64 3, .int .i32 99] 53 (0, 0) : Obj)).cell? ⟨V1.heap.size, 5, none⟩ = some (.int .i32 97) := (blk_cell H1.out 5).trans rfl
 have b0 : (V5.alloc (.cells #[.int .i64 1, .int .i64 3, .int .i64 1, .int .i64 2, .int .i64 3, .int .i32 99] 53 (0, 0) : Obj)).cell? ⟨V3.heap.size, 0, none⟩ = some (.int .i64 1) := (blk_cell H2.out 0).trans rfl
 have b1 : (V5.alloc (.cells #[.int .i64 1, .int .i64 3, .int .i64 1, .int .i64 2, .int .i64 3, .int .i32 99] 53 (0, 0) : Obj)).cell? ⟨V3.heap.size, 1, none⟩ = some (.int .i64 2) := (blk_cell H2.out 1).trans rfl
 have b2 : (V5.alloc (.cells #[.int .i64 1, .int .i64 3, .int .i64 1, .int .i64 2, .int .i64 3, .int .i32 99] 53 (0, 0) : Obj)).cell? ⟨V3.heap.size, 2, none⟩ = some (.int .i64 1) := (blk_cell H2.out 2).trans rfl
 have b3 : (V5.alloc (.cells #[.int .i64 1, .int .i64 3, .int .i64 1, .int .i64 2, .int .i64 3, .int .i32 99] 53 (0, 0) : Obj)).cell? ⟨V3.heap.size, 3, none⟩ = some (.int .i64 1) := (blk_cell H2.out 3).trans rfl
 have b4 : (V5.alloc (.cells #[.int .i64 1, .int .i64 3, .int .i64 1, .int .i64 2, .int .i64 3, .int .i32 99] 53 (0, 0) : Obj)).cell? ⟨V3.heap.size, 4, none⟩ = some (.int .i64 2) := (blk_cell H2.out 4).trans rfl
 have b5 : (V5.alloc (.cells #[.int .i64 1, .int .i64 3, .int .i64 1, .int .i64 2, .int .i64 3, .int .i32 99] 53 (0, 0) : Obj)).cell? ⟨V3.heap.size, 5, none⟩ = some (.int .i32 0) := (blk_cell H2.out 5).trans rfl
 have c0 : (V5.alloc (.cells #[.int .i64 1, .int .i64 3, .int .i64 1, .int .i64 2, .int .i64 3, .int .i32 99] 53 (0, 0) : Obj)).cell? ⟨V5.heap.size, 0, none⟩ = some (.int .i64 1) := (blk_cell H3.out 0).trans rfl
 have c1 : (V5.alloc (.cells #[.int .i64 1, .int .i64 3, .int .i64 1, .int .i64 2, .int .i64 3, .int .i32 99] 53 (0, 0) : Obj)).cell? ⟨V5.heap.size, 1, none⟩ = some (.int .i64 3) := (blk_cell H3.out 1).trans rfl
 have c2 : (V5.alloc (.cells #[.int .i64 1, .int .i64 3, .int .i64 1, .int .i64 2, .int .i64 3, .int .i32 99] 53 (0, 0) : Obj)).cell? ⟨V5.heap.size, 2, none⟩ = some (.int .i64 1) := (blk_cell H3.out 2).trans rfl
 have c3 : (V5.alloc (.cells #[.int .i64 1, .int .i64 3, .int .i64 1, .int .i64 2, .int .i64 3, .int .i32 99] 53 (0, 0) : Obj)).cell? ⟨V5.heap.size, 3, none⟩ = some (.int .i64 2) := (blk_cell H3.out 3).trans rfl
 have c4 : (V5.alloc (.cells #[.int .i64 1, .int .i64 3, .int .i64 1, .int .i64 2, .int .i64 3, .int .i32 99] 53 (0, 0) : Obj)).cell? ⟨V5.heap.size, 4, none⟩ = some (.int .i64 3) := (blk_cell H3.out 4).trans rfl
 have c5 : (V5.alloc (.cells #[.int .i64 1, .int .i64 3, .int .i64 1, .int .i64 2, .int .i64 3, .int .i32 99] 53 (0, 0) : Obj)).cell? ⟨V5.heap.size, 5, none⟩ = some (.int .i32 99) := (blk_cell H3.out 5).trans rfl
 go_wp2_with fail
 clear a0 a1 a2 a3 a4 a5 b0 b1 b2 b3 b4 b5 c0 c1 c2 c3 c4 c5
 have hb0 := below_alloc (Below.refl _ (V5.alloc (boxN xC))) (.cells #[.int .i64 1, .int .i64 1, .int .i64 0, .int .i64 0, .int .i64 1, .int .i32 97, .int .i64 1, .int .i64 2, .int .i64 1, .int .i64 1, .int .i64 2, .int .i32 0, .int .i64 1, .int .i64 3, .int .i64 1, .int .i64 2, .int .i64 3, .int .i32 99] 53 (0, 0) : Obj)
 have HS := Aside0.mk (Kd.R_reads' (lit_nodes (V5.alloc (boxN xC)) 0 (Nat.zero_le _) [xA, xB, xC] 3 rfl (by decide) (by decide) #[.int .i64 1, .int .i64 1, .int .i64 0, .int .i64 0, .int .i64 1, .int .i32 97, .int .i64 1, .int .i64 2, .int .i64 1, .int .i64 1, .int .i64 2, .int .i32 0, .int .i64 1, .int .i64 3, .int .i64 1, .int .i64 2, .int .i64 3, .int .i32 99] rfl)).2.2
 have H1 := Aside0.mk (blk_keep H1.out hb0)
 have H3 := Aside0.mk (blk_keep H3.out hb0)
 have HB := Aside0.mk (below_more HB.out hb0)
 clear hb0 H2
 obtain ⟨V6, HV6⟩ : ∃ V6, V6 = ((V5.alloc (.cells #[.int .i64 1, .int .i64 3, .int .i64 1, .int .i64 2, .int .i64 3, .int .i32 99] 53 (0, 0) : Obj)).alloc (.cells #[.int .i64 1, .int .i64 1, .int .i64 0, .int .i64 0, .int .i64 1, .int .i32 97, .int .i64 1, .int .i64 2, .int .i64 1, .int .i64 1, .int .i64 2, .int .i32 0, .int .i64 1, .int .i64 3, .int .i64 1, .int .i64 2, .int .i64 3, .int .i32 99] 53 (0, 0) : Obj)) := ⟨_, rfl⟩
 have HS : Aside0 (Kd.C k53 V6 (some ⟨V5.heap.size + 1, 0, none⟩) 3 [xA, xB, xC]) := ⟨by rw [HV6]; have := HS.out; rw [show (V5.alloc (boxN xC)).heap.size = V5.heap.size + 1 by simp] at this; exact this⟩
 have H1 : Aside0 (V6.heap[V1.heap.size]? = some (boxN xA)) := ⟨by rw [HV6]; exact H1.out⟩
 have H3 : Aside0 (V6.heap[V5.heap.size]? = some (boxN xC)) := ⟨by rw [HV6]; exact H3.out⟩
 have HB : Aside0 (Below w.heap.size w V6) := ⟨by rw [HV6]; exact HB.out⟩
 try rw [show ((V5.alloc (.cells #[.int .i64 1, .int .i64 3, .int .i64 1, .int .i64 2, .int .i64 3, .int .i32 99] 53 (0, 0) : Obj)).alloc (.cells #[.int .i64 1, .int .i64 1, .int .i64 0, .int .i64 0, .int .i64 1, .int .i32 97, .int .i64 1, .int .i64 2, .int .i64 1, .int .i64 1, .int .i64 2, .int .i32 0, .int .i64 1, .int .i64 3, .int .i64 1, .int .i64 2, .int .i64 3, .int .i32 99] 53 (0, 0) : Obj)) = V6 from HV6.symm]
 refine AnyOrder.wp_region (by kernel_rfl) (kf5Inv V6.drew V1.heap.size V5.heap.size _ _ _ _ _ _ _ _ _ _ _ _ _ _ _ _ _ _ _ _ _ _ _ _ _ _ _ _ _ _ _ _ _ _ _ _ _ _ _ _ _ _ _ _ _ _ _ _ _ _ _ _ _ _ _ _ _ _ _ _ _ _ _ _ _ _ _ _ _ _ _ _ _ _ _ _ _ _ _ _ _ _ _ _ _ _ _ _ _ _ _ _ _ _ _ _ _ _ _ _ _) ⟨false, false, false, false, false, false, 0, 0, rfl, rfl, ⟨⟨fun h => (by cases h), fun h => (by cases h), Below.refl _ _, fun h _ => (by cases h), fun h => (by cases h), fun h _ => (by cases h), fun h => (by cases h), fun h => (by cases h), fun h => (by cases h), fun h _ => (by cases h)⟩⟩⟩ ?step ?last
 case step =>
  rintro L ac V i ⟨l0, l1, l2, l3, l4, l5, g5, g6, rfl, rfl, HF⟩ hi K hK
  have h1 : i = 0 ∨ i = 1 ∨ i = 2 ∨ i = 3 ∨ i = 4 ∨ i = 5 := by
   have h1 := (AnyOrder.mem_ready hi).1
   clear hi hK
   change i < 6 at h1
   omega
  rcases h1 with rfl | rfl | rfl | rfl | rfl | rfl
  ·
   obtain rfl : l0 = false := (AnyOrder.mem_ready hi).2.1
   clear hi
   obtain ⟨q0, q1, q2, q3, q4, q5⟩ := box_six (blk_keep (blk_drew H1.out) HF.out.below)
   refine AnyOrder.wpOp_go rfl (by rfl) ?_
   go_wp2_with fail
   exact ⟨true, l1, l2, l3, l4, l5, g5, g6, rfl, rfl, HF⟩
  ·
   obtain rfl : l1 = false := (AnyOrder.mem_ready hi).2.1
   clear hi
   obtain ⟨q0, q1, q2, q3, q4, q5⟩ := box_six (blk_keep (blk_drew H3.out) HF.out.below)
   refine AnyOrder.wpOp_go rfl (by rfl) ?_
   go_wp2_with fail
   exact ⟨l0, true, l2, l3, l4, l5, g5, g6, rfl, rfl, HF⟩
  ·
   obtain rfl : l2 = false := (AnyOrder.mem_ready hi).2.1
   clear hi
   obtain rfl : l4 = false := by cases l4 with | false => rfl | true => cases HF.out.ord4 rfl
   have hb1 := below_alloc (Below.refl _ V) boxZ
   refine AnyOrder.wpOp_go rfl (by rfl) ?_
   go_wp2_with fail
   exact ⟨l0, l1, true, l3, false, l5, V.heap.size, g6, rfl, rfl, ⟨⟨fun h => (by cases h), HF.out.ord5, below_more HF.out.below hb1, fun _ _ => blk_new _ _, fun h => (by cases h), fun h k => blk_keep (HF.out.z6 h k) hb1, fun h => blk_keep (HF.out.x6 h) hb1, fun _ => HF.out.below.size, HF.out.ge6, fun _ h => Nat.ne_of_gt (by cases l5 with | false => exact blk_lt (HF.out.z6 h rfl) | true => exact blk_lt (HF.out.x6 rfl))⟩⟩⟩
  ·
   obtain rfl : l3 = false := (AnyOrder.mem_ready hi).2.1
   clear hi
   obtain rfl : l5 = false := by cases l5 with | false => rfl | true => cases HF.out.ord5 rfl
   have hb1 := below_alloc (Below.refl _ V) boxZ
   refine AnyOrder.wpOp_go rfl (by rfl) ?_
   go_wp2_with fail
   exact ⟨l0, l1, l2, true, l4, false, g5, V.heap.size, rfl, rfl, ⟨⟨HF.out.ord4, fun h => (by cases h), below_more HF.out.below hb1, fun h k => blk_keep (HF.out.z5 h k) hb1, fun h => blk_keep (HF.out.x5 h) hb1, fun _ _ => blk_new _ _, fun h => (by cases h), HF.out.ge5, fun _ => HF.out.below.size, fun h _ => Nat.ne_of_lt (by cases l4 with | false => exact blk_lt (HF.out.z5 h rfl) | true => exact blk_lt (HF.out.x5 rfl))⟩⟩⟩
  ·
   obtain rfl : l4 = false := (AnyOrder.mem_ready hi).2.1
   obtain rfl : l2 = true := AnyOrder.dep (q := 0) hi rfl rfl rfl
   obtain rfl : l0 = true := AnyOrder.dep (q := 1) hi rfl rfl rfl
   obtain rfl : l3 = true := AnyOrder.dep (q := 5) hi rfl rfl rfl
   clear hi
   simp only [sel_true, selv_true] at hK ⊢
   refine AnyOrder.wpOp_go rfl (by rfl) ?_
   refine op_boxNode (.tmp 5) (.tmp 22) rfl rfl (HF.out.z5 rfl rfl) xA rfl rfl ?_
   intro W4 h1 h2
   have far : ∀ {q : Nat} {o : Obj}, V.heap[q]? = some o → q ≠ g5 → W4.heap[q]? = some o := fun hq hn => (h2.block _ (blk_lt hq) (fun e => hn (Option.some.inj e))).trans hq
   exact hK _ _ ⟨true, l1, true, true, true, l5, g5, g6, rfl, rfl, ⟨⟨fun _ => rfl, HF.out.ord5, HF.out.below.grown h2 HF.out.below.size (fun q e => by cases e; exact HF.out.ge5 rfl), fun _ h => (by cases h), fun _ => h1, fun h k => far (HF.out.z6 h k) (fun e => HF.out.ne rfl h e.symm), fun h => far (HF.out.x6 h) (fun e => HF.out.ne rfl (HF.out.ord5 h) e.symm), HF.out.ge5, HF.out.ge6, HF.out.ne⟩⟩⟩
  ·
   obtain rfl : l5 = false := (AnyOrder.mem_ready hi).2.1
   obtain rfl : l3 = true := AnyOrder.dep (q := 0) hi rfl rfl rfl
   obtain rfl : l1 = true := AnyOrder.dep (q := 1) hi rfl rfl rfl
   obtain rfl : l4 = true := AnyOrder.dep (q := 2) hi rfl rfl rfl
   obtain rfl : l0 = true := AnyOrder.dep (q := 3) hi rfl rfl rfl
   obtain rfl : l2 = true := AnyOrder.dep (q := 5) hi rfl rfl rfl
   clear hi
   simp only [sel_true, selv_true] at hK ⊢
   refine AnyOrder.wpOp_go rfl (by rfl) ?_
   refine op_boxNode (.tmp 6) (.tmp 23) rfl rfl (HF.out.z6 rfl rfl) xC rfl rfl ?_
   intro W4 h1 h2
   have far : ∀ {q : Nat} {o : Obj}, V.heap[q]? = some o → q ≠ g6 → W4.heap[q]? = some o := fun hq hn => (h2.block _ (blk_lt hq) (fun e => hn (Option.some.inj e))).trans hq
   exact hK _ _ ⟨true, true, true, true, true, true, g5, g6, rfl, rfl, ⟨⟨HF.out.ord4, fun _ => rfl, HF.out.below.grown h2 HF.out.below.size (fun q e => by cases e; exact HF.out.ge6 rfl), fun h k => far (HF.out.z5 h k) (fun e => HF.out.ne h rfl e), fun h => far (HF.out.x5 h) (fun e => HF.out.ne (HF.out.ord4 h) rfl e), fun _ h => (by cases h), fun _ => h1, HF.out.ge5, HF.out.ge6, HF.out.ne⟩⟩⟩
 case last =>
  rintro L ac V ⟨l0, l1, l2, l3, l4, l5, g5, g6, rfl, rfl, HF⟩ hr
  have hall := AnyOrder.all_listed rfl (by kernel_rfl) hr
  clear hr
  obtain rfl : l0 = true := hall 0 (by decide)
  obtain rfl : l1 = true := hall 1 (by decide)
  obtain rfl : l2 = true := hall 2 (by decide)
  obtain rfl : l3 = true := hall 3 (by decide)
  obtain rfl : l4 = true := hall 4 (by decide)
  obtain rfl : l5 = true := hall 5 (by decide)
  clear hall
  simp only [sel_true, selv_true]
  have H5 := Aside0.mk (HF.out.x5 rfl)
  have H6 := Aside0.mk (HF.out.x6 rfl)
  have HNE := Aside0.mk (HF.out.ne rfl rfl)
  have hbb := below_more (below_drew1 (Below.refl _ V6)) HF.out.below
  have HG : Aside0 (V6.heap.size ≤ g5 ∧ V6.heap.size ≤ g6) := ⟨HF.out.ge5 rfl, HF.out.ge6 rfl⟩
  have HB6 := Aside0.mk hbb
  clear HF hbb H1 H3
  generalize V = V7 at *
  have c5 : V7.cell? ⟨g5, 5, none⟩ = some (.int .i32 97) := (blk_cell H5.out 5).trans rfl
  have f5 := blk_frozen H5.out 5
  have h6 : (V7.setCell ⟨g5, 5, none⟩ (.int .i32 0)).heap[g6]? = some (boxN xC) := by rw [far_setCell (fun e => HNE.out e.symm)]; exact H6.out
  have c6 : (V7.setCell ⟨g5, 5, none⟩ (.int .i32 0)).cell? ⟨g6, 5, none⟩ = some (.int .i32 99) := (blk_cell h6 5).trans rfl
  have f6 := blk_frozen h6 5
  have K6 := Aside0.mk (blk_set h6 5 (.int .i32 0))
  have k5 := blk_set H5.out 5 (.int .i32 0)
  have K5 : Aside0 (((V7.setCell ⟨g5, 5, none⟩ (.int .i32 0)).setCell ⟨g6, 5, none⟩ (.int .i32 0)).heap[g5]? = some (boxN xG)) := ⟨by rw [far_setCell HNE.out]; exact k5⟩
  have K6 : Aside0 (((V7.setCell ⟨g5, 5, none⟩ (.int .i32 0)).setCell ⟨g6, 5, none⟩ (.int .i32 0)).heap[g6]? = some (boxN xL)) := ⟨K6.out⟩
  have HB7 : Aside0 (Below V6.heap.size V6 ((V7.setCell ⟨g5, 5, none⟩ (.int .i32 0)).setCell ⟨g6, 5, none⟩ (.int .i32 0))) := ⟨by
   have h1 := HB6.out.grown (grown_cell (V := V7) (W := V7) ⟨rfl, rfl, rfl, Nat.le_refl _, fun _ _ _ => rfl⟩ 5 (.int .i32 0)) HB6.out.size (fun q e => by cases e; exact HG.out.1)
   exact h1.grown (grown_cell (V := V7.setCell ⟨g5, 5, none⟩ (.int .i32 0)) (W := V7.setCell ⟨g5, 5, none⟩ (.int .i32 0)) ⟨rfl, rfl, rfl, Nat.le_refl _, fun _ _ _ => rfl⟩ 5 (.int .i32 0)) h1.size (fun q e => by cases e; exact HG.out.2)⟩
  clear k5 h6
  go_wp2_with fail
  clear c5 f5 c6 f6
  have HB := Aside0.mk (below_more HB.out HB7.out)
  have HS := Aside0.mk (Kd.C_below HS.out HB7.out)
  clear HB6 HB7 H5 H6 HNE HG
  generalize (V7.setCell ⟨g5, 5, none⟩ (.int .i32 0)).setCell ⟨g6, 5, none⟩ (.int .i32 0) = V8 at *
  generalize V5.heap.size + 1 = gS at *
  refine (redpencillaw15_dot.calls 2 1 2 1 V8 rfl).mono ?_
  rintro e V9 ⟨rfl, hb⟩
  have HB := Aside0.mk (below_more HB.out hb)
  have HS := Aside0.mk (Kd.C_below HS.out hb)
  have K5 := Aside0.mk (blk_keep K5.out hb)
  have K6 := Aside0.mk (blk_keep K6.out hb)
  clear hb
  go_wp2_with fail
  refine (redpencillaw15_dot.calls 1 1 1 1 V9 rfl).mono ?_
  rintro e V10 ⟨rfl, hb⟩
  have HB := Aside0.mk (below_more HB.out hb)
  have HS := Aside0.mk (Kd.C_below HS.out hb)
  have K5 := Aside0.mk (blk_keep K5.out hb)
  have K6 := Aside0.mk (blk_keep K6.out hb)
  clear hb
  go_wp2_with fail
  refine (redpencillaw15_dot.calls 2 2 2 2 V10 rfl).mono ?_
  rintro e V11 ⟨rfl, hb⟩
  have HB := Aside0.mk (below_more HB.out hb)
  have HS := Aside0.mk (Kd.C_below HS.out hb)
  have K5 := Aside0.mk (blk_keep K5.out hb)
  have K6 := Aside0.mk (blk_keep K6.out hb)
  clear hb
  go_wp2_with fail
  refine (redpencillaw15_dot.calls 2 1 2 1 V11 rfl).mono ?_
  rintro e V12 ⟨rfl, hb⟩
  have HB := Aside0.mk (below_more HB.out hb)
  have HS := Aside0.mk (Kd.C_below HS.out hb)
  have K5 := Aside0.mk (blk_keep K5.out hb)
  have K6 := Aside0.mk (blk_keep K6.out hb)
  clear hb
  go_wp2_with fail
  have hb := below_alloc (Below.refl V12.heap.size V12) (.cells #[.int .i64 2, .int .i64 1, .int .i64 1, .int .i64 1, .int .i64 4, .int .i32 120, .int .i64 2, .int .i64 2, .int .i64 2, .int .i64 1, .int .i64 5, .int .i32 121] 53 (0, 0) : Obj)
  have HX := Aside0.mk (Kd.R_reads' (lit_nodes V12 0 (Nat.zero_le _) [xX, xY] 2 rfl (by decide) (by decide) #[.int .i64 2, .int .i64 1, .int .i64 1, .int .i64 1, .int .i64 4, .int .i32 120, .int .i64 2, .int .i64 2, .int .i64 2, .int .i64 1, .int .i64 5, .int .i32 121] rfl)).2.2
  have HB := Aside0.mk (below_more HB.out hb)
  have HS := Aside0.mk (Kd.C_below HS.out hb)
  have K5 := Aside0.mk (blk_keep K5.out hb)
  have K6 := Aside0.mk (blk_keep K6.out hb)
  clear hb
  obtain ⟨V13, HV13⟩ : ∃ V13, V13 = V12.alloc (.cells #[.int .i64 2, .int .i64 1, .int .i64 1, .int .i64 1, .int .i64 4, .int .i32 120, .int .i64 2, .int .i64 2, .int .i64 2, .int .i64 1, .int .i64 5, .int .i32 121] 53 (0, 0) : Obj) := ⟨_, rfl⟩
  rw [← HV13] at HB HS K5 K6 HX
  try rw [show V12.alloc (.cells #[.int .i64 2, .int .i64 1, .int .i64 1, .int .i64 1, .int .i64 4, .int .i32 120, .int .i64 2, .int .i64 2, .int .i64 2, .int .i64 1, .int .i64 5, .int .i32 121] 53 (0, 0) : Obj) = V13 from HV13.symm]
  refine AnyOrder.wp_region (by kernel_rfl) (kf8Inv V13.drew g5 g6 _ _ _ _ _ _ _ _ _ _ _ _ _ _ _ _ _ _ _ _ _ _ _ _ _ _ _ _ _ _ _ _ _ _ _ _ _ _ _ _ _ _ _ _ _ _ _ _ _ _ _ _ _ _ _ _ _ _ _ _ _ _ _ _ _ _ _ _ _ _ _ _ _ _ _ _ _ _ _ _ _ _ _ _ _ _ _ _ _ _ _ _ _ _ _ _ _ _ _ _ _) ⟨false, false, false, false, false, false, 0, rfl, rfl, ⟨⟨Below.refl _ _, fun h => (by cases h), fun h => (by cases h)⟩⟩⟩ ?step ?last
  case step =>
   rintro L ac V i ⟨l0, l1, l2, l3, l4, l5, gZ, rfl, rfl, HF⟩ hi K hK
   have h1 : i = 0 ∨ i = 1 ∨ i = 2 ∨ i = 3 ∨ i = 4 ∨ i = 5 := by
    have h1 := (AnyOrder.mem_ready hi).1
    clear hi hK
    change i < 6 at h1
    omega
   rcases h1 with rfl | rfl | rfl | rfl | rfl | rfl
   ·
    obtain rfl : l0 = false := (AnyOrder.mem_ready hi).2.1
    clear hi
    obtain ⟨q0, q1, q2, q3, q4, q5⟩ := box_six (blk_keep (blk_drew K5.out) HF.out.below)
    refine AnyOrder.wpOp_go rfl (by rfl) ?_
    go_wp2_with fail
    exact ⟨true, l1, l2, l3, l4, l5, gZ, rfl, rfl, HF⟩
   ·
    obtain rfl : l1 = false := (AnyOrder.mem_ready hi).2.1
    clear hi
    refine AnyOrder.wpOp_go rfl (by rfl) ?_
    go_wp2_with fail
    refine (redpencillaw15_dot.calls 2 1 2 1 V rfl).mono ?_
    rintro e V' ⟨rfl, hb⟩
    exact hK _ _ ⟨l0, true, l2, l3, l4, l5, gZ, rfl, rfl, ⟨⟨below_more HF.out.below hb, fun h => RN.below' (HF.out.z h) hb, HF.out.ord⟩⟩⟩
   ·
    obtain rfl : l2 = false := (AnyOrder.mem_ready hi).2.1
    obtain rfl : l1 = true := AnyOrder.dep (q := 0) hi rfl rfl rfl
    clear hi
    simp only [sel_true, selv_true] at hK ⊢
    refine AnyOrder.wpOp_go rfl (by rfl) ?_
    go_wp2_with fail
    exact ⟨l0, true, true, l3, l4, l5, gZ, rfl, rfl, HF⟩
   ·
    obtain rfl : l3 = false := (AnyOrder.mem_ready hi).2.1
    clear hi
    obtain ⟨q0, q1, q2, q3, q4, q5⟩ := box_six (blk_keep (blk_drew K6.out) HF.out.below)
    refine AnyOrder.wpOp_go rfl (by rfl) ?_
    go_wp2_with fail
    exact ⟨l0, l1, l2, true, l4, l5, gZ, rfl, rfl, HF⟩
   ·
    obtain rfl : l4 = false := (AnyOrder.mem_ready hi).2.1
    obtain rfl : l0 = true := AnyOrder.dep (q := 0) hi rfl rfl rfl
    obtain rfl : l2 = true := AnyOrder.dep (q := 1) hi rfl rfl rfl
    obtain rfl : l3 = true := AnyOrder.dep (q := 2) hi rfl rfl rfl
    clear hi
    simp only [sel_true, selv_true] at hK ⊢
    obtain rfl : l5 = false := by cases l5 with | false => rfl | true => cases HF.out.ord rfl
    (try simp only [selv_false] at hK ⊢)
    refine AnyOrder.wpOp_go rfl (by rfl) ?_
    go_wp2_with fail
    exact ⟨true, l1, true, true, true, false, V.heap.size, rfl, rfl, ⟨⟨below_more HF.out.below (below_alloc (Below.refl _ V) _), fun _ => lit_nodes V V13.drew.heap.size HF.out.below.size [xG, xZ, xL] 3 rfl (by decide) (by decide) #[.int .i64 1, .int .i64 1, .int .i64 0, .int .i64 0, .int .i64 1, .int .i32 0, .int .i64 2, .int .i64 1, .int .i64 0, .int .i64 0, .int .i64 4, .int .i32 122, .int .i64 1, .int .i64 3, .int .i64 1, .int .i64 2, .int .i64 3, .int .i32 0] rfl, fun _ => rfl⟩⟩⟩
   ·
    obtain rfl : l5 = false := (AnyOrder.mem_ready hi).2.1
    obtain rfl : l4 = true := AnyOrder.dep (q := 0) hi rfl rfl rfl
    obtain rfl : l1 = true := AnyOrder.dep (q := 1) hi rfl rfl rfl
    obtain rfl : l0 = true := AnyOrder.dep (q := 2) hi rfl rfl rfl
    obtain rfl : l2 = true := AnyOrder.dep (q := 4) hi rfl rfl rfl
    obtain rfl : l3 = true := AnyOrder.dep (q := 5) hi rfl rfl rfl
    clear hi
    simp only [sel_true, selv_true] at hK ⊢
    refine AnyOrder.wpOp_go rfl (by rfl) ?_
    go_wp2_with fail
    exact ⟨true, true, true, true, true, true, gZ, rfl, rfl, ⟨⟨HF.out.below, HF.out.z, fun _ => rfl⟩⟩⟩
  case last =>
   rintro L ac V ⟨l0, l1, l2, l3, l4, l5, gZ, rfl, rfl, HF⟩ hr
   have hall := AnyOrder.all_listed rfl (by kernel_rfl) hr
   clear hr
   obtain rfl : l0 = true := hall 0 (by decide)
   obtain rfl : l1 = true := hall 1 (by decide)
   obtain rfl : l2 = true := hall 2 (by decide)
   obtain rfl : l3 = true := hall 3 (by decide)
   obtain rfl : l4 = true := hall 4 (by decide)
   obtain rfl : l5 = true := hall 5 (by decide)
   clear hall
   simp only [sel_true, selv_true]
   have hbb := below_more (below_drew1 (Below.refl _ V13)) HF.out.below
   have HK := Aside0.mk (show K15 w gS V12.heap.size gZ g6 V from ⟨below_more HB.out hbb, Kd.C_below HS.out hbb, Kd.C_below HX.out hbb, (Kd.R_reads' (HF.out.z rfl)).2.2, blk_keep K6.out hbb⟩)
   clear HF hbb HB HS HX K5 K6 HV13 HV6
   generalize V12.heap.size = gX at *
   generalize V = U0 at *
   go_wp2_with fail
   refine (redpencillaw15_dot.calls 2 1 2 1 _ rfl).mono ?_
   rintro e U1 ⟨rfl, hb⟩
   have HK := Aside0.mk (HK.out.more hb)
   clear hb
   go_wp2_with fail
   have hb := below_alloc (Below.refl _ U1) (.cells #[.int .i32 120, .int .i32 121] 21 (0, 0) : Obj)
   have HRR := Aside0.mk (blk_new U1 (.cells #[.int .i32 120, .int .i32 121] 21 (0, 0) : Obj))
   have HK := Aside0.mk (HK.out.more hb)
   clear hb
   refine (redpencillaw15_inserts.calls 60 _ 3 [xA, xB, xC] 2 1 1 _ 2 [120, 121] _ 2 [xX, xY] 0 true _ HK.out.s (Nat.le_refl _) (intRow_C [120, 121] _ rfl HRR.out (by decide)) (Nat.le_refl _) HK.out.x (Nat.le_refl _) kn15_0).mono ?_
   rintro e U2 ⟨rfl, hb⟩
   have HK := Aside0.mk (HK.out.more hb)
   clear hb
   clear HRR
   go_wp2_with fail
   refine (texts_call 60 _ 3 [xA, xB, xC] _ 2 [xX, xY] ⟨#[97, 120, 121, 99]⟩ _ _ _ HK.out.s (Nat.le_refl _) HK.out.x (Nat.le_refl _) kn15_1 (by kernel_rfl)).mono ?_
   rintro e U3 ⟨rfl, hb⟩
   have HK := Aside0.mk (HK.out.more hb)
   clear hb
   obtain ⟨q0, q1, q2, q3, q4, q5⟩ := box_six HK.out.also
   go_wp2_with fail
   clear q0 q1 q2 q3 q4 q5
   have HRL := Aside0.mk (Kd.R_reads' (lit_nodes U3 0 (Nat.zero_le _) [xL] 1 rfl (by decide) (by decide) #[.int .i64 1, .int .i64 3, .int .i64 1, .int .i64 2, .int .i64 3, .int .i32 0] rfl)).2.2
   have hb := below_alloc (Below.refl _ U3) (.cells #[.int .i64 1, .int .i64 3, .int .i64 1, .int .i64 2, .int .i64 3, .int .i32 0] 53 (0, 0) : Obj)
   have HK := Aside0.mk (HK.out.more hb)
   clear hb
   refine (redpencillaw15_deletes.calls 60 _ 3 [xA, xB, xC] 1 1 _ 1 [xL] 0 true _ HK.out.s (Nat.le_refl _) HRL.out (Nat.le_refl _) kn15_2).mono ?_
   rintro e U4 ⟨rfl, hb⟩
   have HK := Aside0.mk (HK.out.more hb)
   clear hb
   clear HRL
   go_wp2_with fail
   refine (redpencillaw15_dot.calls 2 1 2 1 _ rfl).mono ?_
   rintro e U5 ⟨rfl, hb⟩
   have HK := Aside0.mk (HK.out.more hb)
   clear hb
   go_wp2_with fail
   have hb := below_alloc (Below.refl _ U5) (.cells #[.int .i32 122] 21 (0, 0) : Obj)
   have HRR := Aside0.mk (blk_new U5 (.cells #[.int .i32 122] 21 (0, 0) : Obj))
   have HK := Aside0.mk (HK.out.more hb)
   clear hb
   refine (redpencillaw15_replaces.calls 60 _ 3 [xA, xB, xC] 2 1 0 2 _ 1 [122] _ 3 [xG, xZ, xL] 0 true _ HK.out.s (Nat.le_refl _) (intRow_C [122] _ rfl HRR.out (by decide)) (Nat.le_refl _) HK.out.z (Nat.le_refl _) kn15_3).mono ?_
   rintro e U6 ⟨rfl, hb⟩
   have HK := Aside0.mk (HK.out.more hb)
   clear hb
   clear HRR
   go_wp2_with fail
   refine (texts_call 60 _ 3 [xA, xB, xC] _ 3 [xG, xZ, xL] ⟨#[122]⟩ _ _ _ HK.out.s (Nat.le_refl _) HK.out.z (Nat.le_refl _) kn15_4 (by kernel_rfl)).mono ?_
   rintro e U7 ⟨rfl, hb⟩
   have HK := Aside0.mk (HK.out.more hb)
   clear hb
   go_wp2_with fail
   have hb := below_alloc (Below.refl _ U7) (.cells #[.int .i32 120] 21 (0, 0) : Obj)
   have HRR := Aside0.mk (blk_new U7 (.cells #[.int .i32 120] 21 (0, 0) : Obj))
   have HK := Aside0.mk (HK.out.more hb)
   clear hb
   have HONE := Aside0.mk HRR.out
   clear HRR
   refine (redpencillaw15_dot.calls 2 1 2 1 _ rfl).mono ?_
   rintro e U8 ⟨rfl, hb⟩
   have HK := Aside0.mk (HK.out.more hb)
   have HONE := Aside0.mk (blk_keep HONE.out hb)
   clear hb
   go_wp2_with fail
   refine (redpencillaw15_inserts.calls 60 _ 3 [xA, xB, xC] 2 1 3 _ 1 [120] _ 0 [] 3 true _ HK.out.s (Nat.le_refl _) (intRow_C [120] _ rfl HONE.out (by decide)) (Nat.le_refl _) nilNs (Nat.le_refl _) kn15_5).mono ?_
   rintro e U9 ⟨rfl, hb⟩
   have HK := Aside0.mk (HK.out.more hb)
   have HONE := Aside0.mk (blk_keep HONE.out hb)
   clear hb
   go_wp2_with fail
   refine (redpencillaw15_dot.calls 1 1 1 1 _ rfl).mono ?_
   rintro e U10 ⟨rfl, hb⟩
   have HK := Aside0.mk (HK.out.more hb)
   have HONE := Aside0.mk (blk_keep HONE.out hb)
   clear hb
   go_wp2_with fail
   refine (redpencillaw15_inserts.calls 60 _ 3 [xA, xB, xC] 1 1 0 _ 1 [120] _ 0 [] 11 true _ HK.out.s (Nat.le_refl _) (intRow_C [120] _ rfl HONE.out (by decide)) (Nat.le_refl _) nilNs (Nat.le_refl _) kn15_6).mono ?_
   rintro e U11 ⟨rfl, hb⟩
   have HK := Aside0.mk (HK.out.more hb)
   have HONE := Aside0.mk (blk_keep HONE.out hb)
   clear hb
   clear HONE
   go_wp2_with fail
   refine (redpencillaw15_dot.calls 2 4294967295 2 4294967295 _ rfl).mono ?_
   rintro e U12 ⟨rfl, hb⟩
   have HK := Aside0.mk (HK.out.more hb)
   clear hb
   go_wp2_with fail
   have hb := below_alloc (Below.refl _ U12) (.cells #[.int .i32 120, .int .i32 121] 21 (0, 0) : Obj)
   have HRR := Aside0.mk (blk_new U12 (.cells #[.int .i32 120, .int .i32 121] 21 (0, 0) : Obj))
   have HK := Aside0.mk (HK.out.more hb)
   clear hb
   refine (redpencillaw15_inserts.calls 60 _ 3 [xA, xB, xC] 2 4294967295 0 _ 2 [120, 121] _ 0 [] 14 true _ HK.out.s (Nat.le_refl _) (intRow_C [120, 121] _ rfl HRR.out (by decide)) (Nat.le_refl _) nilNs (Nat.le_refl _) kn15_7).mono ?_
   rintro e U13 ⟨rfl, hb⟩
   have HK := Aside0.mk (HK.out.more hb)
   clear hb
   clear HRR
   go_wp2_with fail
   refine (redpencillaw15_dot.calls 2 1 2 1 _ rfl).mono ?_
   rintro e U14 ⟨rfl, hb⟩
   have HK := Aside0.mk (HK.out.more hb)
   clear hb
   go_wp2_with fail
   have hb := below_alloc (Below.refl _ U14) (.cells #[.int .i32 0] 21 (0, 0) : Obj)
   have HRR := Aside0.mk (blk_new U14 (.cells #[.int .i32 0] 21 (0, 0) : Obj))
   have HK := Aside0.mk (HK.out.more hb)
   clear hb
   refine (redpencillaw15_inserts.calls 60 _ 3 [xA, xB, xC] 2 1 0 _ 1 [0] _ 0 [] 13 true _ HK.out.s (Nat.le_refl _) (intRow_C [0] _ rfl HRR.out (by decide)) (Nat.le_refl _) nilNs (Nat.le_refl _) kn15_8).mono ?_
   rintro e U15 ⟨rfl, hb⟩
   have HK := Aside0.mk (HK.out.more hb)
   clear hb
   clear HRR
   go_wp2_with fail
   refine (redpencillaw15_deletes.calls 60 _ 3 [xA, xB, xC] 0 3 _ 0 [] 3 true _ HK.out.s (Nat.le_refl _) nilNs (Nat.le_refl _) kn15_9).mono ?_
   rintro e U16 ⟨rfl, hb⟩
   have HK := Aside0.mk (HK.out.more hb)
   clear hb
   go_wp2_with fail
   refine (edit_Latest.calls 60 _ 3 [xA, xB, xC] 3 _ HK.out.s (Nat.le_refl _) kn15_10).mono ?_
   rintro e U17 ⟨rfl, hb⟩
   have HK := Aside0.mk (HK.out.more hb)
   clear hb
   go_wp2
   go_ret
   exact ⟨rfl, HK.out.below⟩
end Go.Proofs.YtmbndijbpgobeaaGreat.PWalk
end
section
namespace Go.Proofs.YtmbndijbpgobeaaGreat.PWalk
open Go.RowKit Go.Proofs.YtmbndijbpgobeaaGreatW.PrintWords Go.Proofs.YtmbndijbpgobeaaGreatW.PrintLast Go.Proofs.YtmbndijbpgobeaaGreatW.PrintMore
attribute [local go_sem] max2_int max_two
set_option linter.unusedVariables false
set_option linter.unusedSimpArgs false
attribute [local go_sem high] eqA25
def redpencilref14_IsRune.f (a0 : Int) : Option (Bool) := if a0 ≥ 1 then (if a0 ≤ 1114111 then (if a0 < 55296 then (some true) else (some (decide (a0 > 57343)))) else (some false)) else (some false)
set_option maxHeartbeats 8000000 in
set_option maxRecDepth 100000 in
theorem redpencilref14_IsRune.calls (a0 : Int) (r : Bool) (w : World) (h : redpencilref14_IsRune.f a0 = some r) :
  Calls Tryz.prog 31 #[.int .i32 a0] w fun e w' => e = .returned (.bool r) ∧ Drawn0 w w' := by
 have H : (if a0 ≥ 1 then (if a0 ≤ 1114111 then (if a0 < 55296 then (some true) else (some (decide (a0 > 57343)))) else (some false)) else (some false)) = some r := h
 clear h
 by_cases c2 : a0 ≥ 1
 ·
  rw [if_pos c2] at H
  have c2b0 : decide (1 ≤ a0) = true := decide_eq_true c2
  clear c2
  by_cases c3 : a0 ≤ 1114111
  ·
   rw [if_pos c3] at H
   have c3b0 : decide (a0 ≤ 1114111) = true := decide_eq_true c3
   clear c3
   by_cases c4 : a0 < 55296
   ·
    rw [if_pos c4] at H
    have c4b0 : decide (a0 < 55296) = true := decide_eq_true c4
    clear c4
    obtain rfl := Option.some.inj H
    go_enter Tryz.func31, Tryz.ntmps31
    go_wp2
    go_ret
    exact ⟨by first | rfl | (simp; done) | (simp [*]; done), by repeat (first | exact Drawn0.refl _ | apply Drawn0.step)⟩
   ·
    rw [if_neg c4] at H
    have c4b0 : decide (a0 < 55296) = false := decide_eq_false c4
    clear c4
    obtain rfl := Option.some.inj H
    go_enter Tryz.func31, Tryz.ntmps31
    go_wp2
    go_ret
    exact ⟨by first | rfl | (simp; done) | (simp [*]; done), by repeat (first | exact Drawn0.refl _ | apply Drawn0.step)⟩
  ·
   rw [if_neg c3] at H
   have c3b0 : decide (a0 ≤ 1114111) = false := decide_eq_false c3
   clear c3
   obtain rfl := Option.some.inj H
   go_enter Tryz.func31, Tryz.ntmps31
   go_wp2
   go_ret
   exact ⟨by first | rfl | (simp; done) | (simp [*]; done), by repeat (first | exact Drawn0.refl _ | apply Drawn0.step)⟩
 ·
  rw [if_neg c2] at H
  have c2b0 : decide (1 ≤ a0) = false := decide_eq_false c2
  clear c2
  obtain rfl := Option.some.inj H
  go_enter Tryz.func31, Tryz.ntmps31
  go_wp2
  go_ret
  exact ⟨by first | rfl | (simp; done) | (simp [*]; done), by repeat (first | exact Drawn0.refl _ | apply Drawn0.step)⟩
end Go.Proofs.YtmbndijbpgobeaaGreat.PWalk
end
section
namespace Go.Proofs.YtmbndijbpgobeaaGreat.PWalk
open Go.RowKit Go.Proofs.YtmbndijbpgobeaaGreatW.PrintWords Go.Proofs.YtmbndijbpgobeaaGreatW.PrintLast Go.Proofs.YtmbndijbpgobeaaGreatW.PrintMore
set_option linter.unusedVariables false
set_option linter.unusedSimpArgs false
open Go.Shelf
attribute [local go_sem] Oper.semAt_some
def upL (ch : Bool) (k : Nat) : Dot := if k = 0 then ⟨0, 0⟩ else if ch = true then ⟨1, (k : Int)⟩ else ⟨1, 1⟩
def longN (ch : Bool) (k : Nat) : Node := ⟨⟨1, (k : Int) + 1⟩, upL ch k, (k : Int) + 1, 97⟩
def longL (ch : Bool) (m : Nat) : List Node := (List.range m).map (longN ch)
theorem mem_longL {ch : Bool} {m : Nat} {x : Node} : x ∈ longL ch m ↔ ∃ k, k < m ∧ x = longN ch k := by
 unfold longL
 rw [List.mem_map]
 constructor
 ·
  rintro ⟨k, h, rfl⟩; exact ⟨k, by simpa using h, rfl⟩
 ·
  rintro ⟨k, h, rfl⟩; exact ⟨k, by simpa using h, rfl⟩
theorem nodeOk_long (ch : Bool) {k : Nat} (hk : k < 4294967295) : nodeOk (longN ch k) = true := by
 have h1 : dotOk (longN ch k).f0 = true := by
  refine decide_eq_true ⟨by show (1 : Int) ≤ 1; omega, by show (1 : Int) ≤ 64; omega, by show (1 : Int) ≤ (k : Int) + 1; omega, by show (k : Int) + 1 ≤ _; omega⟩
 have h2 : dotRoot (longN ch k).f1 = true ∨ dotOk (longN ch k).f1 = true := by
  show dotRoot (upL ch k) = true ∨ dotOk (upL ch k) = true
  unfold upL
  by_cases hz : k = 0
  ·
   rw [if_pos hz]; exact .inl (by decide)
  ·
   rw [if_neg hz]
   by_cases hc : ch = true
   ·
    rw [if_pos hc]; exact .inr (decide_eq_true ⟨by show (1 : Int) ≤ 1; omega, by show (1 : Int) ≤ 64; omega, by show (1 : Int) ≤ (k : Int); omega, by show (k : Int) ≤ _; omega⟩)
   ·
    rw [if_neg hc]; exact .inr (by decide)
 have h3 : (longN ch k).f1 ≠ (longN ch k).f0 := by
  show upL ch k ≠ ⟨1, (k : Int) + 1⟩
  intro he
  have he2 := congrArg (fun d : Dot => d.f1) he
  unfold upL at he2
  by_cases hz : k = 0
  ·
   rw [if_pos hz] at he2; simp only at he2; omega
  ·
   rw [if_neg hz] at he2
   by_cases hc : ch = true
   ·
    rw [if_pos hc] at he2; simp only at he2; omega
   ·
    rw [if_neg hc] at he2; simp only at he2; omega
 refine decide_eq_true ⟨h1, h2, h3, ?_, ?_, .inr (by show runeOk 97 = true; decide)⟩
 ·
  show (1 : Int) ≤ (k : Int) + 1; omega
 ·
  show (k : Int) + 1 ≤ _; omega
theorem inc_back : ∀ {l : List Node}, Inc l → incB (l.map (·.f0)) = true
 | [], _ => rfl
 | [_], _ => rfl
 | a :: b :: l, h => by
  have h' := List.pairwise_cons.1 h
  show (dotLt a.f0 b.f0 && incB ((b :: l).map (·.f0))) = true
  rw [h'.1 b (List.mem_cons_self ..), inc_back h'.2]; rfl
theorem inc_long (ch : Bool) (m : Nat) : Inc (longL ch m) := by
 unfold Inc longL
 rw [List.pairwise_map]
 refine List.pairwise_lt_range.imp fun {a b} h => decide_eq_true (.inl ?_)
 show (a : Int) + 1 < (b : Int) + 1
 omega
theorem store_long (ch : Bool) {m : Nat} (hm : m ≤ 20000) : storeOk (longL ch m) = true := by
 unfold storeOk
 rw [inc_back (inc_long ch m), Bool.and_true, List.all_eq_true]
 intro x hx
 obtain ⟨k, hk, rfl⟩ := mem_longL.1 hx
 exact nodeOk_long ch (by omega)
theorem kids_are {l b : List Node} {d : Dot} (hs : Store l) (hb : SortedN b) (hn : b.Nodup) (hm : ∀ x, x ∈ b ↔ x ∈ l ∧ x.f1 = d) : kids l d = b := by
 refine sorted_unique ((List.perm_ext_iff_of_nodup (kids_nodup hs d) hn).2 fun x => by rw [mem_kids, hm]) (kids_sorted l d) hb fun x hx y hy e => inc_eq hs.inc (mem_kids.1 hx).1 (mem_kids.1 hy).1 e
/-- The children in a chain. -/
theorem kids_chain {m k : Nat} (hm : m ≤ 20000) (hk : k < m) : kids (longL true m) (upL true k) = [longN true k] := by
 refine kids_are (store_of (store_long true hm)) (List.pairwise_singleton _ _) (by simp) fun x => ?_
 rw [List.mem_singleton]
 constructor
 ·
  rintro rfl; exact ⟨mem_longL.2 ⟨k, hk, rfl⟩, rfl⟩
 ·
  rintro ⟨h, e⟩
  obtain ⟨j, hj, rfl⟩ := mem_longL.1 h
  have e : upL true j = upL true k := e
  have e2 := congrArg (fun d : Dot => d.f1) e
  unfold upL at e2
  simp only [if_true] at e2
  have : j = k := by
   by_cases h1 : j = 0 <;> by_cases h2 : k = 0 <;> simp only [h1, h2, if_true, if_false] at e2 <;> omega
  rw [this]
theorem kids_chain_end {m : Nat} (hm : m ≤ 20000) (h0 : 0 < m) : kids (longL true m) (upL true m) = [] := by
 refine kids_are (store_of (store_long true hm)) List.Pairwise.nil List.nodup_nil fun x => ?_
 constructor
 ·
  intro h; cases h
 ·
  rintro ⟨h, e⟩
  obtain ⟨j, hj, rfl⟩ := mem_longL.1 h
  have e : upL true j = upL true m := e
  have e2 := congrArg (fun d : Dot => d.f1) e
  unfold upL at e2
  rw [if_neg (show ¬ m = 0 by omega), if_pos rfl] at e2
  exfalso
  by_cases h1 : j = 0
  ·
   rw [if_pos h1] at e2
   have e2 : (0 : Int) = m := e2
   omega
  ·
   rw [if_neg h1, if_pos rfl] at e2
   have e2 : (j : Int) = m := e2
   omega
theorem longN_dot (ch : Bool) (k : Nat) (h : ch = true) : (longN ch k).f0 = upL ch (k + 1) := by
 subst h
 unfold longN upL
 rw [if_neg (show ¬ k + 1 = 0 by omega), if_pos rfl]
 show (⟨1, (k : Int) + 1⟩ : Dot) = ⟨1, ((k + 1 : Nat) : Int)⟩
 rw [Int.natCast_succ]
def waysC : Nat → List Node
 | 0 => []
 | k + 1 => longN true k :: waysC k
theorem path_chain {m : Nat} : ∀ {k : Nat}, k ≤ m → Path (longL true m) (upL true k) (waysC k)
 | 0, _ => Path.root
 | k + 1, h => by
  rw [← longN_dot true k rfl]
  exact Path.step _ _ (longN true k) (path_chain (by omega)) (mem_longL.2 ⟨k, by omega, rfl⟩) rfl
theorem below_chain {m : Nat} (hm : m ≤ 20000) : ∀ (n k dep : Nat), k + n = m → (belowOf (longL true m) dep (upL true k)).map (·.2) = (List.range' k n).map (longN true)
 | 0, k, dep, h => by
  have hs := store_of (store_long true hm)
  obtain rfl : k = m := by omega
  rw [belowOf_kids hs (path_chain (Nat.le_refl _))]
  by_cases h0 : 0 < k
  ·
   rw [kids_chain_end hm h0]; rfl
  ·
   obtain rfl : k = 0 := by omega
   rfl
 | n + 1, k, dep, h => by
  have hs := store_of (store_long true hm)
  rw [belowOf_kids hs (path_chain (k := k) (by omega)), kids_chain hm (by omega), List.flatMap_cons, List.flatMap_nil, List.append_nil, List.map_cons, longN_dot true k rfl, below_chain hm n (k + 1) (dep + 1) (by omega), List.range'_succ]
  rfl
theorem ord_chain {m : Nat} (hm : m ≤ 20000) : (ordOf (longL true m)).map (·.2) = longL true m := by
 have h := below_chain hm m 0 0 (by omega)
 show (belowOf (longL true m) 0 (upL true 0)).map (·.2) = _
 rw [h]
 unfold longL
 rw [List.range_eq_range']
def withR (x : Int) (n : Node) : Node := ⟨n.f0, n.f1, n.f2, x⟩
def eN (x : Int) (k : Nat) : Node := ⟨⟨1, (k : Int) + 1⟩, upL true k, (k : Int) + 1, x⟩
def eL (m : Nat) (x : Int) : List Node := (longL true m).map (withR x)
theorem eL_is (m : Nat) (x : Int) : eL m x = (List.range m).map (eN x) := by
 unfold eL longL
 rw [List.map_map]
 rfl
theorem eL_length (m : Nat) (x : Int) : (eL m x).length = m := by rw [eL_is]; simp
theorem eL_get {m i : Nat} (x : Int) (h : i < m) : (eL m x)[i]? = some (eN x i) := by
 rw [eL_is, List.getElem?_map, List.getElem?_range h]
 rfl
theorem withR_keeps (x : Int) : Keeps (withR x) := fun _ => ⟨rfl, rfl, rfl⟩
theorem eL_store {m : Nat} {x : Int} (hm : m ≤ 20000) (hx : runeOk x = true) : storeOk (eL m x) = true := by
 have h := store_long true hm
 unfold storeOk at h ⊢
 rw [Bool.and_eq_true, List.all_eq_true] at h ⊢
 refine ⟨fun y hy => ?_, ?_⟩
 ·
  obtain ⟨z, hz, rfl⟩ := List.mem_map.1 hy
  have := h.1 z hz
  unfold nodeOk at this ⊢
  have := of_decide_eq_true this
  exact decide_eq_true ⟨this.1, this.2.1, this.2.2.1, this.2.2.2.1, this.2.2.2.2.1, .inr hx⟩
 ·
  unfold eL
  rw [List.map_map]
  exact h.2
theorem eL_ord {m : Nat} (x : Int) (hm : m ≤ 20000) : nds (ordOf (eL m x)) = eL m x := by
 unfold eL
 rw [ord_map (withR_keeps x)]
 congr 1
 exact ord_chain hm
theorem rune_nz {x : Int} (hx : runeOk x = true) : x ≠ 0 := by
 unfold runeOk at hx
 exact (of_decide_eq_true hx).1
theorem eL_vis {m : Nat} {x : Int} (hm : m ≤ 20000) (hx : runeOk x = true) : visOf (eL m x) = eL m x := by
 unfold visOf aliveOf
 rw [eL_ord x hm, List.filter_eq_self]
 intro y hy
 rw [eL_is] at hy
 obtain ⟨i, _, rfl⟩ := List.mem_map.1 hy
 have := rune_nz hx
 simp [eN, this]
theorem eL_well {m : Nat} {x : Int} (hm : m ≤ 20000) (hx : runeOk x = true) : faultsOf (eL m x) = [] := by
 have h1 := store_of (eL_store hm hx)
 refine faultsUpto_nil fun i hi => ?_
 rw [eL_length] at hi
 refine (flaw_zero h1.ok h1.inc (eL_get x hi)).2 ?_
 cases i with
 | zero => exact .inl (by show dotRoot (upL true 0) = true; rfl)
 | succ j =>
  refine .inr ⟨eN x j, List.mem_of_getElem? (eL_get x (show j < m by omega)), ?_, ?_⟩
  ·
   show (⟨1, (j : Int) + 1⟩ : Dot) = upL true (j + 1)
   unfold upL
   rw [if_neg (by omega), if_pos rfl]
   congr 1
  ·
   show (j : Int) + 1 < ((j + 1 : Nat) : Int) + 1
   omega
theorem eL_chain (m : Nat) (x : Int) : chainE ⟨1, 1⟩ ⟨0, 0⟩ 0 (List.replicate m x) = eL m x := by
 unfold chainE
 rw [eL_is, List.length_replicate]
 refine List.map_congr_left fun i hi => ?_
 have hi := List.mem_range.1 hi
 unfold nodeE eN
 have e1 : (1 : Int) + (i : Int) = (i : Int) + 1 := Int.add_comm _ _
 have e2 : (0 : Int) + 1 + (i : Int) = (i : Int) + 1 := by omega
 have e3 : (List.replicate m x).getD i 0 = x := by simp [List.getD, hi]
 rw [e1, e2, e3]
 congr 1
 cases i with
 | zero => rfl
 | succ j =>
  show (⟨1, (1 : Int) + (j : Int)⟩ : Dot) = upL true (j + 1)
  unfold upL
  rw [if_neg (by omega), if_pos rfl]
  congr 1
  omega
theorem err_longs {m : Nat} {x : Int} (hm : m ≤ 20000) (hx : runeOk x = true) : errE [] ⟨1, 1⟩ 0 0 (List.replicate m x) = if m > 10000 then 5 else 0 := by
 unfold errE
 have h1 : (if (!wellB [] || !dotOk ⟨1, 1⟩) = true then (2 : Int) else 0) = 0 := by kernel_rfl
 have h2 : spanE [] 0 0 = 0 := by kernel_rfl
 have h4 : ((List.replicate m x).any fun r => !runeOk r) = false := by
  rw [List.any_eq_false]
  intro r hr
  rw [List.eq_of_mem_replicate hr, hx]
  decide
 have h5 : lateE [] = 0 := by kernel_rfl
 have w1 : wrap64 (wrap64 (4294967295 - (m : Int)) + 1) = 4294967296 - (m : Int) := by unfold wrap64; omega
 have w2 : wrap64 (4611686018427387904 - (m : Int)) = 4611686018427387904 - (m : Int) := by unfold wrap64; omega
 rw [List.length_replicate, h1, h2, h4, h5, w1, w2]
 by_cases h : m > 10000
 ·
  rw [if_pos h, show decide ((m : Int) > 10000) = true from decide_eq_true (by omega)]
  rfl
 ·
  rw [if_neg h, show decide ((m : Int) > 10000) = false from decide_eq_false (by omega)]
  rw [show decide ((⟨1, 1⟩ : Dot).f1 > 4294967296 - (m : Int)) = false from decide_eq_false (by show ¬ (1 : Int) > _; omega), show decide ((0 : Int) > 4611686018427387904 - (m : Int)) = false from decide_eq_false (by omega)]
  rfl
theorem insert_long {m : Nat} {x : Int} (hm : m ≤ 20000) (hx : runeOk x = true) : edit_Insert.f [] 1 1 0 (List.replicate m x) = some (if m > 10000 then ([], 5) else (eL m x, 0)) := by
 unfold edit_Insert.f edit_Replace.f
 rw [if_pos ⟨by simp, by rw [List.length_replicate]; exact hm⟩, Option.bind_some]
 unfold replR
 rw [err_longs hm hx]
 by_cases h : m > 10000
 ·
  rw [if_pos h, if_pos h, if_pos (by decide)]
 ·
  rw [if_neg h, if_neg h, if_neg (by simp)]
  have hb : busyE [] ⟨1, 1⟩ (List.replicate m x).length = false := busy_no fun i _ h => by cases h
  have hc : chainR [] ⟨1, 1⟩ 0 (List.replicate m x) = (eL m x, 0) := by
   unfold chainR
   rw [if_neg (by rw [hb]; decide)]
   have e1 : leftE [] 0 = ⟨0, 0⟩ := rfl
   have e2 : lastOf [] = 0 := rfl
   rw [e1, e2, eL_chain]
  have hd : delE [] 0 0 = ([], 0) := del_none (by kernel_rfl) rfl
  rw [hc, hd, if_neg (by simp)]
  unfold joinR
  rw [if_pos ⟨rfl, eL_store hm hx⟩, joinOf_nil]
theorem delete_long {m : Nat} {x : Int} (hm : m ≤ 20000) (hx : runeOk x = true) : edit_Delete.f (eL m x) 0 (m : Int) = some (if m > 10000 then ([], 5) else ((eL m x).map deadN, 0)) := by
 unfold edit_Delete.f
 rw [if_pos (by rw [eL_length]; omega)]
 have hsp : spanE (eL m x) 0 (m : Int) = 0 := by
  unfold spanE
  rw [if_pos (eL_well hm hx), if_neg (by rw [eL_vis hm hx, eL_length]; omega)]
 unfold delE
 rw [if_neg (by rw [hsp]; simp)]
 by_cases h : m > 10000
 ·
  rw [if_pos h, if_pos (by omega)]
 ·
  rw [if_neg h, if_neg (by omega)]
  have hc : cutV (eL m x) 0 (m : Int) = eL m x := by
   unfold cutV
   rw [eL_vis hm hx, Int.zero_add, Int.toNat_natCast, List.take_of_length_le (by rw [eL_length]; exact Nat.le_refl _)]
   rfl
  rw [hc, List.filter_eq_self.2 fun y hy => decide_eq_true (List.mem_map.2 ⟨y, hy, rfl⟩)]
theorem isRune_is (x : Int) : redpencilref14_IsRune.f x = some (runeOk x) := by
 unfold redpencilref14_IsRune.f runeOk
 by_cases h1 : x ≥ 1
 ·
  rw [if_pos h1]
  by_cases h2 : x ≤ 1114111
  ·
   rw [if_pos h2]
   by_cases h3 : x < 55296
   ·
    rw [if_pos h3, decide_eq_true (by omega)]
   ·
    rw [if_neg h3]
    congr 1
    rw [decide_eq_decide]
    omega
  ·
   rw [if_neg h2, decide_eq_false (by omega)]
 ·
  rw [if_neg h1, decide_eq_false (by omega)]
end Go.Proofs.YtmbndijbpgobeaaGreat.PWalk
end
section
namespace Go.Proofs.YtmbndijbpgobeaaGreat.PWalk
open Go.RowKit Go.Proofs.YtmbndijbpgobeaaGreatW.PrintWords Go.Proofs.YtmbndijbpgobeaaGreatW.PrintLast Go.Proofs.YtmbndijbpgobeaaGreatW.PrintMore
set_option linter.unusedVariables false
set_option linter.unusedSimpArgs false
open Go.Shelf
attribute [local go_sem] Oper.semAt_some
theorem put_rune {ops : Array Oper} {rest : List Oper} {o : Oper} {a : Act} {Q : Exit → Act → World → Prop} (hgd : o.guard = none) (p x : Operand) (ho : o.op = .store 21 p x) (hN : o.dst = none) {W : World} {base g n cap i : Nat} {xs : List Int} (r : Int)
  (h : Kd.R (Kd.int .i32) 21 W base (fun _ => True) (.slice (some ⟨g, 0, none⟩) n cap) xs) (hi : i < n) (haddr : a.eval p = .pointer (some ⟨g, i, none⟩)) (hx : a.eval x = .int .i32 r)
  (hk : ∀ w1, Kd.R (Kd.int .i32) 21 w1 base (fun _ => True) (.slice (some ⟨g, 0, none⟩) n cap) (xs.set i r) → W.grownBy w1 (some g) → wpList Tryz.prog ops Q rest a w1) : wpList Tryz.prog ops Q (o :: rest) a W := by
 have hl : xs.length = n := (Kd.R_reads' h).1.symm
 have hC := (Kd.R_reads' h).2.2
 obtain ⟨ad, e, h0⟩ := rune_at hC (Below.refl _ W) i (xs[i]'(by omega)) (List.getElem?_eq_getElem _)
 cases e
 rw [add_lit, Nat.zero_add] at h0
 refine Kd.R_store (Kd.int .i32) (w0 := W) base hN hgd 21 p x ho 21 (i : Int) 0 xs r (.int .i32 r) [.int .i32 r] [.int .i32 (xs[i]'(by omega))] (fun _ => True) (fun _ => False) haddr (by simp [Kd.int, Kd.scalar]) hx rfl (by kernel_rfl) (by intro q hq; simp at hq; subst hq; rfl) h (by omega) (by omega) rfl (fun j u hu => ?_) (Nat.le_refl _) rfl (fun _ h => h.elim) (Below.refl _ _) (fun w1 h1 _ h3 => by rw [Int.toNat_natCast] at h1; exact hk w1 h1 h3)
 have hj : j = 0 := by
  cases j with
  | zero => rfl
  | succ j => simp at hu
 subst hj
 simp at hu
 subst hu
 rw [show (⟨g, (i : Int).toNat * (Kd.int IntKind.i32).sz + 0, none⟩ : Addr) = ⟨g, i, none⟩ by simp [Kd.int, Kd.scalar]]
 exact h0
/-- The operation: the parent is stored into a node's box. -/
theorem wpList_boxParent {ops : Array Oper} {rest : List Oper} {o : Oper} {a : Act} {Q : Exit → Act → World → Prop} (hgd : o.guard = none) (s x : Operand) (ho : o.op = .store 25 s x) (hd : o.dst = none) {w : World} {g : Nat} {y : Node}
  (hg : w.heap[g]? = some (boxN y)) (e : Dot) (hs : a.eval s = .pointer (some ⟨g, 2, none⟩)) (hx : a.eval x = vDot e)
  (hk : ∀ w', w'.heap[g]? = some (boxN ⟨y.f0, e, y.f2, y.f3⟩) → w.grownBy w' (some g) → wpList Tryz.prog ops Q rest a w') : wpList Tryz.prog ops Q (o :: rest) a w := by
 obtain ⟨i0, hi0, hz0, hz1, hz2⟩ := info_get infoD
 have hst := run_storeVar_at (P := Tryz.prog) w g 2 53 25 _ #[.int .i64 e.f0, .int .i64 e.f1] hg (by rw [hi0]; show some i0.size = some 2; rw [hz1]) (by show 2 + 2 ≤ 6; omega) (by intro v hv; simp at hv; rcases hv with rfl | rfl <;> rfl)
 refine wpList_plain hgd fun K hK => ?_
 unfold Oper.wp execOp
 simp only [ho, hs, hx, Instr.storeAt, Instr.sureAddr, Sem.run_bind, Sem.run_pure, Result.andThen_ok, hst]
 show K (a.put o.dst undef) _
 rw [hd]
 exact hK _ _ (hk _ (setRow_at hg _) (setRow_grown w g _))
theorem set_mid {α : Type} {L1 L2 : List α} {k : Nat} {x : α} (h1 : L1[k]? = some x) (h2 : k < L2.length) : (L1.take k ++ L2.drop k).set k x = L1.take (k + 1) ++ L2.drop (k + 1) := by
 obtain ⟨hk, e⟩ := List.getElem?_eq_some_iff.1 h1
 rw [List.set_append_right _ _ (by rw [List.length_take]; omega), List.length_take, Nat.min_eq_left (by omega), Nat.sub_self, List.drop_eq_getElem_cons h2, List.set_cons_zero, List.take_succ_eq_append_getElem hk, e, List.append_assoc]
 rfl
theorem mid_at {α : Type} {L : List α} {k : Nat} : L.take k ++ L.drop k = L := List.take_append_drop k L
theorem eN_zero (x : Int) {k : Nat} (h : k = 0) : (⟨⟨1, (k : Int) + 1⟩, ⟨0, 0⟩, (k : Int) + 1, x⟩ : Node) = eN x k := by subst h; rfl
theorem eN_succ (x : Int) {k : Nat} (h : ¬ k = 0) : (⟨⟨1, (k : Int) + 1⟩, ⟨1, (k : Int)⟩, (k : Int) + 1, x⟩ : Node) = eN x k := by
 unfold eN upL
 rw [if_neg h, if_pos rfl]
set_option maxHeartbeats 4000000 in
set_option maxRecDepth 100000 in
theorem EditLongs.big (m : Nat) (a1 : Int) (w : World) (hm : 9998 ≤ m ∧ m ≤ 10002) (hx : runeOk a1 = true) (hbg : m > 10000) :
  Calls Tryz.prog 7 #[.int .i64 (m : Int), .int .i32 a1] w fun e w' => e = .returned (.bool true) ∧ Below w.heap.size w w' := by
 have HB : Aside0 (Below w.heap.size w w) := ⟨Below.refl _ _⟩
 have HM := Aside0.mk hm
 have Hb := Aside0.mk hx
 have HBG := Aside0.mk hbg
 have g1 : decide ((m : Int) < 9998) = false := decide_eq_false (by omega)
 have g2 : decide ((m : Int) > 10002) = false := decide_eq_false (by omega)
 have g3 : decide ((10002 : Int) < (m : Int)) = false := decide_eq_false (by omega)
 have HIR := Aside0.mk (redpencilref14_IsRune.calls a1 true w (by rw [isRune_is, hx]))
 have hu := Tryz.underlying53
 have hu2 := Tryz.underlying25
 clear hm hx hbg
 go_enter Tryz.func7, Tryz.ntmps7
 go_wp2_with fail
 refine HIR.out.mono ?_
 rintro e V0 ⟨rfl, hd⟩
 have HB := Aside0.mk (below_more HB.out (Gr.drawn hd).below)
 clear hd HIR g1 g2 g3
 go_wp2_with (refine Kd.R_make (Kd.int .i32) (w0 := V0) V0.heap.size 21 rfl rfl 26 (.tmp 25) (.tmp 25) rfl (m : Int) rfl rfl Tryz.underlying26 (.int .i32 0) 4 (by kernel_rfl) rfl (by decide) (by decide) (0 : Int) (ok := fun _ => True) (okp := fun _ => False) rfl (fun _ h => h.elim) trivial (by omega) (by have := HM.out; rw [Int.toNat_natCast]; omega) (Below.refl _ _) (Nat.le_refl _) ?_; intro v5 V1 hr5 hb5 _ _)
 rw [Int.toNat_natCast] at hr5
 obtain ⟨gl, cl, e5, _⟩ := Kd.R_form hr5 (by rw [List.length_replicate]; have := HM.out; omega)
 subst e5
 rw [List.length_replicate] at hr5 ⊢
 have HGL : Aside0 (w.heap.size ≤ gl) := ⟨Nat.le_trans HB.out.size (Kd.R_base hr5 gl (by simp [Value.ownBlock]))⟩
 have HL0 := Aside0.mk hr5
 have HB1 := Aside0.mk (below_more HB.out hb5)
 clear hr5 hb5
 go_loopw [6] (fun i wr => ∃ k : Nat, i = .int .i64 k ∧ k ≤ m ∧ Aside0 (Kd.R (Kd.int .i32) 21 wr V0.heap.size (fun _ => True) (.slice (some ⟨gl, 0, none⟩) m cl) ((List.replicate m a1).take k ++ (List.replicate m (0 : Int)).drop k)) ∧ Aside0 (Below w.heap.size w wr)) (fun i _ => m - (intOf i).toNat)
 case atStart => exact ⟨0, rfl, Nat.zero_le _, ⟨by simpa using HL0.out⟩, HB1⟩
 case round =>
  obtain ⟨k, rfl, hk, HL, HB⟩ := hrel
  clear HL0 HB1
  by_cases hlt : k < m
  ·
   have hltb : decide ((k : Int) < (m : Int)) = true := decide_eq_true (by omega)
   have hm := HM.out
   go_wp2_with (refine put_rune rfl (.tmp 35) (.tmp 34) rfl rfl a1 HL.out hlt rfl rfl ?_; intro W1 hr1 hg1)
   rw [set_mid (x := a1) (by rw [List.getElem?_replicate, if_pos hlt]) (by rw [List.length_replicate]; exact hlt)] at hr1
   have HL := Aside0.mk hr1
   have HB := Aside0.mk (HB.out.grown hg1 HB.out.size (fun q e => by cases e; exact HGL.out))
   clear hr1 hg1
   go_roundw
   case rel => exact ⟨k + 1, by go_num, by omega, HL, HB⟩
   case measure => simp [intOf]; omega
  ·
   obtain rfl : k = m := by omega
   rw [show (List.replicate k a1).take k ++ (List.replicate k (0 : Int)).drop k = List.replicate k a1 by rw [List.take_of_length_le (by simp), List.drop_of_length_le (by simp), List.append_nil]] at HL
   have HLC : Aside0 (k ≤ cl ∧ Kd.C (Kd.int .i32) wr (some ⟨gl, 0, none⟩) k (List.replicate k a1)) := ⟨by have := (Kd.R_reads' HL.out).2; rwa [List.length_replicate] at this⟩
   clear HL hlt
   go_wp2_with fail
   refine (redpencillaw15_dot.calls 1 1 1 1 wr rfl).mono ?_
   rintro e V2 ⟨rfl, hb⟩
   have HB := Aside0.mk (below_more HB.out hb)
   have HLC := Aside0.mk (show k ≤ cl ∧ Kd.C (Kd.int .i32) V2 (some ⟨gl, 0, none⟩) k (List.replicate k a1) from ⟨HLC.out.1, Kd.C_below HLC.out.2 hb⟩)
   clear hb
   have HBIG := HBG
   have hbig := HBG.out
   have hcall := edit_Insert.calls none 0 [] 1 1 0 (some ⟨gl, 0, none⟩) cl (List.replicate k a1) [] 5 V2 nilNs (Nat.le_refl _) (by rw [List.length_replicate]; exact HLC.out.2) (by rw [List.length_replicate]; exact HLC.out.1) (by rw [insert_long (by have := HM.out; omega) Hb.out, if_pos hbig])
   rw [List.length_replicate] at hcall
   have HCALL := Aside0.mk hcall
   have gb : decide ((k : Int) > 10000) = true := decide_eq_true (by omega)
   have gb2 : decide ((10000 : Int) < (k : Int)) = true := decide_eq_true (by omega)
   have gb3 : decide ((k : Int) ≤ 10000) = false := decide_eq_false (by omega)
   clear hcall hbig
   go_wp2_with fail
   refine HCALL.out.mono ?_
   rintro e V3 ⟨v3, rfl, hr3, hb⟩
   have HB := Aside0.mk (below_more HB.out hb)
   obtain ⟨A3, c3, rfl⟩ := Kd.R_slice hr3
   clear hr3 hb HCALL HLC
   rw [List.length_nil]
   go_wp2_with (refine Kd.R_make k53 (w0 := V3) V3.heap.size 53 rfl rfl 23 (.tmp 51) (.tmp 51) rfl (k : Int) rfl rfl Tryz.underlying23 (.agg #[(.int .i64 0), (.int .i64 0), (.int .i64 0), (.int .i64 0), (.int .i64 0), (.int .i32 0)]) 48 (by kernel_rfl) rfl (by decide) (by decide) nodeZ (ok := fun _ => True) (okp := fun _ => False) (k53_mkM _ _ _ nodeZ) (fun _ h => h.elim) trivial (by omega) (by have := HM.out; rw [Int.toNat_natCast]; omega) (Below.refl _ _) (Nat.le_refl _) ?_; intro v7 V4 hr7 hb7 _ _; rw [Int.toNat_natCast] at hr7; obtain ⟨gs, cs, e7, _⟩ := Kd.R_form hr7 (by rw [List.length_replicate]; have := HM.out; omega); subst e7; rw [List.length_replicate] at hr7 ⊢)
   have HS0 : Aside0 (w.heap.size ≤ gs) := ⟨Nat.le_trans HB.out.size (Kd.R_base hr7 gs (by simp [Value.ownBlock]))⟩
   have HS := Aside0.mk (Kd.R_lower hr7 HB.out.size)
   have HB := Aside0.mk (below_more HB.out hb7)
   clear hr7 hb7
   have HL0 : Aside0 ((List.replicate k nodeZ).length = k) := ⟨by rw [List.length_replicate]⟩
   go_loopw [9] (fun i wr => ∃ j : Nat, i = .int .i64 j ∧ j ≤ k ∧ Aside0 (RN wr w.heap.size (.slice (some ⟨gs, 0, none⟩) k cs) ((eL k a1).take j ++ (List.replicate k nodeZ).drop j)) ∧ Aside0 (Below w.heap.size w wr)) (fun i _ => k - (intOf i).toNat)
   case atStart => exact ⟨0, rfl, Nat.zero_le _, ⟨by simpa using HS.out⟩, HB⟩
   case round =>
    obtain ⟨j, rfl, hj, HS, HB⟩ := hrel
    by_cases hlt : j < k
    ·
     have hltb : decide ((j : Int) < (k : Int)) = true := decide_eq_true (by omega)
     have HJ : Aside0 (j < k ∧ k ≤ 10002) := ⟨hlt, HM.out.2⟩
     have hjk := HJ.out
     go_wp2_with fail
     refine (redpencillaw15_dot.calls 1 ((j : Int) + 1) 1 ((j : Int) + 1) wr rfl).mono ?_
     rintro e U1 ⟨rfl, hb⟩
     have HB := Aside0.mk (below_more HB.out hb)
     have HS := Aside0.mk (RN.below' HS.out hb)
     clear hb
     have HX := Aside0.mk (blk_new U1 (boxN ⟨⟨1, (j : Int) + 1⟩, ⟨0, 0⟩, (j : Int) + 1, a1⟩))
     have hb := below_alloc (Below.refl U1.heap.size U1) (boxN ⟨⟨1, (j : Int) + 1⟩, ⟨0, 0⟩, (j : Int) + 1, a1⟩)
     have HNE : Aside0 (gs ≠ U1.heap.size) := ⟨Nat.ne_of_lt (RN.lt HS.out (by simp [Value.ownBlock]))⟩
     have HB := Aside0.mk (below_more HB.out hb)
     have HWU : Aside0 (w.heap.size ≤ U1.heap.size) := ⟨Nat.le_trans HS0.out (Nat.le_of_lt (RN.lt HS.out (by simp [Value.ownBlock])))⟩
     have HS := Aside0.mk (RN.below' HS.out hb)
     clear hb
     by_cases hj0 : j = 0
     ·
      have gj : decide ((j : Int) > 0) = false := decide_eq_false (fun h => by rw [hj0] at h; exact absurd h (by decide))
      have gj2 : decide (0 < j) = false := decide_eq_false (fun h => by rw [hj0] at h; exact absurd h (by decide))
      have HX : Aside0 ((U1.alloc (boxN ⟨⟨1, (j : Int) + 1⟩, ⟨0, 0⟩, (j : Int) + 1, a1⟩)).heap[U1.heap.size]? = some (boxN (eN a1 j))) := ⟨by rw [← eN_zero a1 hj0]; exact HX.out⟩
      have HJ0 := Aside0.mk hj0
      clear hj0
      obtain ⟨x0, x1, x2, x3, x4, x5⟩ := box_six HX.out
      go_wp2_with fail
      go_quiet (fail)
      have hdq := (Gr.drawn (w := (U1.alloc (boxN ⟨⟨1, (j : Int) + 1⟩, ⟨0, 0⟩, (j : Int) + 1, a1⟩))) ⟨nq, rfl⟩).below
      clear x0 x1 x2 x3 x4 x5
      have HX := Aside0.mk (blk_keep HX.out hdq)
      have HB := Aside0.mk (below_more HB.out hdq)
      have HS := Aside0.mk (RN.below' HS.out hdq)
      clear hdq
      obtain ⟨x0, x1, x2, x3, x4, x5⟩ := box_six HX.out
      go_wp2_with (refine wpList_putNode rfl (.tmp 95) (.tmp 94) rfl rfl (eN a1 j) HS.out hlt rfl rfl ?_; intro U5 hr5 hg5)
      rw [set_mid (eL_get a1 hlt) (by rw [HL0.out]; exact hlt)] at hr5
      have HS := Aside0.mk hr5
      have HB := Aside0.mk (HB.out.grown hg5 HB.out.size (fun q e => by cases e; exact HS0.out))
      clear hr5 hg5 x0 x1 x2 x3 x4 x5
      go_roundw
      case rel => exact ⟨j + 1, by go_num, by omega, HS, HB⟩
      case measure => simp [intOf]; omega
     ·
      have gj : decide ((j : Int) > 0) = true := decide_eq_true (Int.natCast_pos.2 (Nat.pos_of_ne_zero hj0))
      have gj2 : decide (0 < j) = true := decide_eq_true (Nat.pos_of_ne_zero hj0)
      have HJ0 := Aside0.mk hj0
      clear hj0
      go_wp2_with fail
      refine (redpencillaw15_dot.calls 1 (j : Int) 1 (j : Int) (U1.alloc (boxN ⟨⟨1, (j : Int) + 1⟩, ⟨0, 0⟩, (j : Int) + 1, a1⟩)) rfl).mono ?_
      rintro e U2 ⟨rfl, hb⟩
      have HX := Aside0.mk (blk_keep HX.out hb)
      have HB := Aside0.mk (below_more HB.out hb)
      have HS := Aside0.mk (RN.below' HS.out hb)
      clear hb gj gj2
      go_wp2_with (refine wpList_boxParent rfl (.tmp 81) (.tmp 80) rfl rfl HX.out ⟨1, (j : Int)⟩ rfl rfl ?_; intro U3 hx3 hg3)
      rw [eN_succ a1 HJ0.out] at hx3
      have HX := Aside0.mk hx3
      have HB := Aside0.mk (HB.out.grown hg3 HB.out.size (fun q e => by cases e; exact HWU.out))
      have HS := Aside0.mk (RN.keep HS.out (fun q hq => by
       have hq' : gs = q := by simpa [Value.ownBlock] using hq
       subst hq'
       exact hg3.block _ (RN.lt HS.out hq) (fun e => HNE.out (Option.some.inj e))))
      clear hx3 hg3
      obtain ⟨x0, x1, x2, x3, x4, x5⟩ := box_six HX.out
      go_wp2_with fail
      go_quiet (fail)
      have hdq := (Gr.drawn (w := U3) ⟨nq, rfl⟩).below
      clear x0 x1 x2 x3 x4 x5
      have HX := Aside0.mk (blk_keep HX.out hdq)
      have HB := Aside0.mk (below_more HB.out hdq)
      have HS := Aside0.mk (RN.below' HS.out hdq)
      clear hdq
      obtain ⟨x0, x1, x2, x3, x4, x5⟩ := box_six HX.out
      go_wp2_with (refine wpList_putNode rfl (.tmp 95) (.tmp 94) rfl rfl (eN a1 j) HS.out hlt rfl rfl ?_; intro U5 hr5 hg5)
      rw [set_mid (eL_get a1 hlt) (by rw [HL0.out]; exact hlt)] at hr5
      have HS := Aside0.mk hr5
      have HB := Aside0.mk (HB.out.grown hg5 HB.out.size (fun q e => by cases e; exact HS0.out))
      clear hr5 hg5 x0 x1 x2 x3 x4 x5
      go_roundw
      case rel => exact ⟨j + 1, by go_num, by omega, HS, HB⟩
      case measure => simp [intOf]; omega
    ·
     obtain rfl : j = k := by omega
     rw [show (eL j a1).take j ++ (List.replicate j nodeZ).drop j = eL j a1 by rw [List.take_of_length_le (by rw [eL_length]; exact Nat.le_refl _), List.drop_of_length_le (by rw [HL0.out]; exact Nat.le_refl _), List.append_nil]] at HS
     have HSC := Aside0.mk (Kd.R_reads' HS.out).2
     rw [eL_length] at HSC
     have hcall := edit_Delete.calls (some ⟨gs, 0, none⟩) cs (eL j a1) 0 (j : Int) [] 5 wr (by rw [eL_length]; exact HSC.out.2) (by rw [eL_length]; exact HSC.out.1) (by rw [delete_long (by have := HM.out; omega) Hb.out, if_pos HBIG.out])
     rw [eL_length] at hcall
     have HCALL := Aside0.mk hcall
     have gb : decide ((j : Int) > 10000) = true := decide_eq_true (by have := HBIG.out; omega)
     have gb2 : decide ((10000 : Int) < (j : Int)) = true := decide_eq_true (by have := HBIG.out; omega)
     clear hcall hlt
     go_wp2_with fail
     refine HCALL.out.mono ?_
     rintro e V5 ⟨v5, rfl, hr5, hb⟩
     have HB := Aside0.mk (below_more HB.out hb)
     obtain ⟨A5, c5, rfl⟩ := Kd.R_slice hr5
     clear hr5 hb HCALL
     rw [List.length_nil]
     go_wp2_with fail
     refine (known15_call _).mono ?_
     rintro e W9 ⟨rfl, hd⟩
     go_wp2
     go_ret
     exact ⟨rfl, below_more HB.out hd⟩
end Go.Proofs.YtmbndijbpgobeaaGreat.PWalk
end
section
namespace Go.Proofs.YtmbndijbpgobeaaGreat.PWalk
open Go.RowKit Go.Proofs.YtmbndijbpgobeaaGreatW.PrintWords Go.Proofs.YtmbndijbpgobeaaGreatW.PrintLast Go.Proofs.YtmbndijbpgobeaaGreatW.PrintMore
set_option linter.unusedVariables false
set_option linter.unusedSimpArgs false
open Go.Shelf
attribute [local go_sem] Oper.semAt_some
def lg21Inv (W0 : World) (k cs gs gX j : Nat) (a1 : Int) (z1 z2 z3 z4 z5 z6 z8 z11 z12 z13 z14 z15 z16 z17 z18 z19 z20 z21 z22 z23 z24 z25 z26 z27 z28 z29 z30 z31 z32 z33 z34 z35 z36 z37 z38 z39 z40 z41 z42 z43 z44 z45 z46 z47 z48 z49 z50 z51 z52 z53 z54 z55 z56 z57 z58 z59 z60 z61 z62 z63 z64 z65 z66 z67 z68 z69 z70 z71 z72 z73 z74 z75 z76 z77 z78 z79 z80 z81 z82 z83 z84 z85 z86 z87 z88 z89 z90 z91 z92 z93 z94 z95 z96 z97 z98 z99 z100 z101 z102 z103 z104 z105 z106 z107 z108 z109 z110 z111 z112 z113 z114 z115 z116 z117 z118 z119 z120 z121 z122 z123 z124 z125 z126 z127 z128 z129 z130 z131 z132 z133 z134 z135 z136 z137 z138 z139 z140 z141 z142 z143 z144 z145 z146 : Value) (L : Array Bool) (ac : Act) (V : World) : Prop := ∃ (l0 l1 l2 l3 l4 l5 l6 l7 l8 l9 : Bool), L = #[l0, l1, l2, l3, l4, l5, l6, l7, l8, l9] ∧ ac = { tmps := #[.int .i64 (k : Int), z1, z2, z3, z4, z5, z6, .slice (some ⟨gs, 0, none⟩) k cs, z8, .int .i64 (j : Int), .pointer (some ⟨gX, 0, none⟩), z11, z12, z13, z14, z15, z16, z17, z18, z19, z20, z21, z22, z23, z24, z25, z26, z27, z28, z29, z30, z31, z32, z33, z34, z35, z36, z37, z38, z39, z40, z41, z42, z43, z44, z45, z46, z47, z48, z49, z50, z51, z52, z53, z54, z55, z56, z57, z58, z59, z60, z61, z62, z63, z64, z65, z66, z67, z68, z69, z70, z71, z72, z73, z74, z75, z76, z77, z78, z79, z80, z81, selv l0 (.int .i64 (k : Int)) (z82), selv l1 (.bool true) (z83), selv l2 (.bool true) (z84), selv l3 (.slice (some ⟨gs, 0, none⟩) k cs) (z85), selv l4 (.int .i64 (j : Int)) (z86), selv l5 (.pointer (some ⟨gs, j * 6, none⟩)) (z87), selv l6 (vNode (eN a1 j)) (z88), selv l7 (vNode (eN a1 j)) (z89), selv l8 (.bool false) (z90), selv l9 (.bool false) (z91), z92, z93, z94, z95, z96, z97, z98, z99, z100, z101, z102, z103, z104, z105, z106, z107, z108, z109, z110, z111, z112, z113, z114, z115, z116, z117, z118, z119, z120, z121, z122, z123, z124, z125, z126, z127, z128, z129, z130, z131, z132, z133, z134, z135, z136, z137, z138, z139, z140, z141, z142, z143, z144, z145, z146], defers := [] } ∧ Aside0 (Below W0.heap.size W0 V)
def lg32Inv (W0 : World) (j cs gs g5 c5 q : Nat) (a1 : Int) (z1 z2 z3 z4 z5 z6 z8 z9 z10 z13 z14 z15 z16 z17 z18 z19 z20 z21 z22 z23 z24 z25 z26 z27 z28 z29 z30 z31 z32 z33 z34 z35 z36 z37 z38 z39 z40 z41 z42 z43 z44 z45 z46 z47 z48 z49 z50 z51 z52 z53 z54 z55 z56 z57 z58 z59 z60 z61 z62 z63 z64 z65 z66 z67 z68 z69 z70 z71 z72 z73 z74 z75 z76 z77 z78 z79 z80 z81 z82 z83 z84 z85 z86 z87 z88 z89 z90 z91 z92 z93 z94 z95 z96 z97 z98 z99 z100 z101 z102 z103 z104 z105 z106 z107 z108 z109 z110 z111 z112 z113 z114 z115 z116 z117 z118 z119 z120 z121 z122 z123 z124 z125 z126 z127 z128 z129 z130 z131 z132 z133 z134 z135 z136 z137 z138 z139 z140 z141 z142 z143 z144 z145 z146 : Value) (L : Array Bool) (ac : Act) (V : World) : Prop := ∃ (l0 l1 l2 l3 l4 l5 l6 l7 l8 l9 l10 l11 l12 l13 l14 l15 l16 l17 l18 : Bool), L = #[l0, l1, l2, l3, l4, l5, l6, l7, l8, l9, l10, l11, l12, l13, l14, l15, l16, l17, l18] ∧ ac = { tmps := #[.int .i64 (j : Int), z1, z2, z3, z4, z5, z6, .slice (some ⟨gs, 0, none⟩) j cs, z8, z9, z10, .slice (some ⟨g5, 0, none⟩) j c5, .int .i64 (q : Int), z13, z14, z15, z16, z17, z18, z19, z20, z21, z22, z23, z24, z25, z26, z27, z28, z29, z30, z31, z32, z33, z34, z35, z36, z37, z38, z39, z40, z41, z42, z43, z44, z45, z46, z47, z48, z49, z50, z51, z52, z53, z54, z55, z56, z57, z58, z59, z60, z61, z62, z63, z64, z65, z66, z67, z68, z69, z70, z71, z72, z73, z74, z75, z76, z77, z78, z79, z80, z81, z82, z83, z84, z85, z86, z87, z88, z89, z90, z91, z92, z93, z94, z95, z96, z97, z98, z99, z100, z101, z102, z103, z104, z105, z106, z107, z108, z109, z110, z111, z112, z113, z114, z115, z116, z117, z118, z119, z120, z121, z122, z123, z124, z125, z126, selv l0 (.slice (some ⟨g5, 0, none⟩) j c5) (z127), selv l1 (.int .i64 (q : Int)) (z128), selv l2 (.pointer (some ⟨g5, q * 6, none⟩)) (z129), selv l3 (.pointer (some ⟨g5, q * 6, none⟩)) (z130), selv l4 (vDot (eN a1 q).f0) (z131), selv l5 (.slice (some ⟨gs, 0, none⟩) j cs) (z132), selv l6 (.int .i64 (q : Int)) (z133), selv l7 (.pointer (some ⟨gs, q * 6, none⟩)) (z134), selv l8 (.pointer (some ⟨gs, q * 6, none⟩)) (z135), selv l9 (vDot (eN a1 q).f0) (z136), selv l10 (.bool false) (z137), selv l11 (.bool false) (z138), selv l12 (.slice (some ⟨g5, 0, none⟩) j c5) (z139), selv l13 (.int .i64 (q : Int)) (z140), selv l14 (.pointer (some ⟨g5, q * 6, none⟩)) (z141), selv l15 (.pointer (some ⟨g5, q * 6 + 5, none⟩)) (z142), selv l16 (.int .i32 0) (z143), selv l17 (.bool false) (z144), selv l18 (.bool false) (z145), z146], defers := [] } ∧ Aside0 (Below W0.heap.size W0 V)
set_option maxHeartbeats 4000000 in
set_option maxRecDepth 100000 in
theorem EditLongs.small (m : Nat) (a1 : Int) (w : World) (hm : 9998 ≤ m ∧ m ≤ 10002) (hx : runeOk a1 = true) (hbg : ¬ m > 10000) :
  Calls Tryz.prog 7 #[.int .i64 (m : Int), .int .i32 a1] w fun e w' => e = .returned (.bool true) ∧ Below w.heap.size w w' := by
 have HB : Aside0 (Below w.heap.size w w) := ⟨Below.refl _ _⟩
 have HM := Aside0.mk hm
 have Hb := Aside0.mk hx
 have HBG := Aside0.mk hbg
 have g1 : decide ((m : Int) < 9998) = false := decide_eq_false (by omega)
 have g2 : decide ((m : Int) > 10002) = false := decide_eq_false (by omega)
 have g3 : decide ((10002 : Int) < (m : Int)) = false := decide_eq_false (by omega)
 have HIR := Aside0.mk (redpencilref14_IsRune.calls a1 true w (by rw [isRune_is, hx]))
 have hu := Tryz.underlying53
 have hu2 := Tryz.underlying25
 clear hm hx hbg
 go_enter Tryz.func7, Tryz.ntmps7
 go_wp2_with fail
 refine HIR.out.mono ?_
 rintro e V0 ⟨rfl, hd⟩
 have HB := Aside0.mk (below_more HB.out (Gr.drawn hd).below)
 clear hd HIR g1 g2 g3
 go_wp2_with (refine Kd.R_make (Kd.int .i32) (w0 := V0) V0.heap.size 21 rfl rfl 26 (.tmp 25) (.tmp 25) rfl (m : Int) rfl rfl Tryz.underlying26 (.int .i32 0) 4 (by kernel_rfl) rfl (by decide) (by decide) (0 : Int) (ok := fun _ => True) (okp := fun _ => False) rfl (fun _ h => h.elim) trivial (by omega) (by have := HM.out; rw [Int.toNat_natCast]; omega) (Below.refl _ _) (Nat.le_refl _) ?_; intro v5 V1 hr5 hb5 _ _)
 rw [Int.toNat_natCast] at hr5
 obtain ⟨gl, cl, e5, _⟩ := Kd.R_form hr5 (by rw [List.length_replicate]; have := HM.out; omega)
 subst e5
 rw [List.length_replicate] at hr5 ⊢
 have HGL : Aside0 (w.heap.size ≤ gl) := ⟨Nat.le_trans HB.out.size (Kd.R_base hr5 gl (by simp [Value.ownBlock]))⟩
 have HL0 := Aside0.mk hr5
 have HB1 := Aside0.mk (below_more HB.out hb5)
 clear hr5 hb5
 go_loopw [6] (fun i wr => ∃ k : Nat, i = .int .i64 k ∧ k ≤ m ∧ Aside0 (Kd.R (Kd.int .i32) 21 wr V0.heap.size (fun _ => True) (.slice (some ⟨gl, 0, none⟩) m cl) ((List.replicate m a1).take k ++ (List.replicate m (0 : Int)).drop k)) ∧ Aside0 (Below w.heap.size w wr)) (fun i _ => m - (intOf i).toNat)
 case atStart => exact ⟨0, rfl, Nat.zero_le _, ⟨by simpa using HL0.out⟩, HB1⟩
 case round =>
  obtain ⟨k, rfl, hk, HL, HB⟩ := hrel
  clear HL0 HB1
  by_cases hlt : k < m
  ·
   have hltb : decide ((k : Int) < (m : Int)) = true := decide_eq_true (by omega)
   have hm := HM.out
   go_wp2_with (refine put_rune rfl (.tmp 35) (.tmp 34) rfl rfl a1 HL.out hlt rfl rfl ?_; intro W1 hr1 hg1)
   rw [set_mid (x := a1) (by rw [List.getElem?_replicate, if_pos hlt]) (by rw [List.length_replicate]; exact hlt)] at hr1
   have HL := Aside0.mk hr1
   have HB := Aside0.mk (HB.out.grown hg1 HB.out.size (fun q e => by cases e; exact HGL.out))
   clear hr1 hg1
   go_roundw
   case rel => exact ⟨k + 1, by go_num, by omega, HL, HB⟩
   case measure => simp [intOf]; omega
  ·
   obtain rfl : k = m := by omega
   rw [show (List.replicate k a1).take k ++ (List.replicate k (0 : Int)).drop k = List.replicate k a1 by rw [List.take_of_length_le (by simp), List.drop_of_length_le (by simp), List.append_nil]] at HL
   have HLC : Aside0 (k ≤ cl ∧ Kd.C (Kd.int .i32) wr (some ⟨gl, 0, none⟩) k (List.replicate k a1)) := ⟨by have := (Kd.R_reads' HL.out).2; rwa [List.length_replicate] at this⟩
   clear HL hlt
   go_wp2_with fail
   refine (redpencillaw15_dot.calls 1 1 1 1 wr rfl).mono ?_
   rintro e V2 ⟨rfl, hb⟩
   have HB := Aside0.mk (below_more HB.out hb)
   have HLC := Aside0.mk (show k ≤ cl ∧ Kd.C (Kd.int .i32) V2 (some ⟨gl, 0, none⟩) k (List.replicate k a1) from ⟨HLC.out.1, Kd.C_below HLC.out.2 hb⟩)
   clear hb
   have HBIG := HBG
   have hbig := HBG.out
   have HG3 : Aside0 (decide ((k : Int) ≤ 10000) = true) := ⟨decide_eq_true (by omega)⟩
   have HBV2 : Aside0 (w.heap.size ≤ V2.heap.size) := ⟨HB.out.size⟩
   have hcall := edit_Insert.calls none 0 [] 1 1 0 (some ⟨gl, 0, none⟩) cl (List.replicate k a1) (eL k a1) 0 V2 nilNs (Nat.le_refl _) (by rw [List.length_replicate]; exact HLC.out.2) (by rw [List.length_replicate]; exact HLC.out.1) (by rw [insert_long (by have := HM.out; omega) Hb.out, if_neg hbig])
   rw [List.length_replicate] at hcall
   have HCALL := Aside0.mk hcall
   have gb : decide ((k : Int) > 10000) = false := decide_eq_false (by omega)
   have gb2 : decide ((10000 : Int) < (k : Int)) = false := decide_eq_false (by omega)
   have gb3 : decide ((k : Int) ≤ 10000) = true := decide_eq_true (by omega)
   clear hcall hbig
   go_wp2_with fail
   refine HCALL.out.mono ?_
   rintro e V3 ⟨v3, rfl, hr3, hb⟩
   have HB := Aside0.mk (below_more HB.out hb)
   obtain ⟨gs, cs, e3, _⟩ := Kd.R_form hr3 (by rw [eL_length]; have := HM.out; omega)
   subst e3
   rw [eL_length] at hr3 ⊢
   have HS0 : Aside0 (w.heap.size ≤ gs) := ⟨Nat.le_trans HBV2.out (Kd.R_base hr3 gs (by simp [Value.ownBlock]))⟩
   have HS := Aside0.mk (Kd.R_lower hr3 HBV2.out)
   clear hr3 hb HCALL HLC
   have HL0 : Aside0 ((eL k a1).length = k) := ⟨by rw [eL_length]⟩
   go_wp2_with fail
   go_loopw [9] (fun i wr => ∃ j : Nat, i = .int .i64 j ∧ j ≤ k ∧ Aside0 (RN wr w.heap.size (.slice (some ⟨gs, 0, none⟩) k cs) ((eL k a1).take j ++ (eL k a1).drop j)) ∧ Aside0 (Below w.heap.size w wr)) (fun i _ => k - (intOf i).toNat)
   case atStart => exact ⟨0, rfl, Nat.zero_le _, ⟨by simpa using HS.out⟩, HB⟩
   case round =>
    obtain ⟨j, rfl, hj, HS, HB⟩ := hrel
    by_cases hlt : j < k
    ·
     have hltb : decide ((j : Int) < (k : Int)) = true := decide_eq_true (by omega)
     have HJ : Aside0 (j < k ∧ k ≤ 10002) := ⟨hlt, HM.out.2⟩
     have hjk := HJ.out
     go_wp2_with fail
     refine (redpencillaw15_dot.calls 1 ((j : Int) + 1) 1 ((j : Int) + 1) wr rfl).mono ?_
     rintro e U1 ⟨rfl, hb⟩
     have HB := Aside0.mk (below_more HB.out hb)
     have HS := Aside0.mk (RN.below' HS.out hb)
     clear hb
     have HX := Aside0.mk (blk_new U1 (boxN ⟨⟨1, (j : Int) + 1⟩, ⟨0, 0⟩, (j : Int) + 1, a1⟩))
     have hb := below_alloc (Below.refl U1.heap.size U1) (boxN ⟨⟨1, (j : Int) + 1⟩, ⟨0, 0⟩, (j : Int) + 1, a1⟩)
     have HNE : Aside0 (gs ≠ U1.heap.size) := ⟨Nat.ne_of_lt (RN.lt HS.out (by simp [Value.ownBlock]))⟩
     have HB := Aside0.mk (below_more HB.out hb)
     have HWU : Aside0 (w.heap.size ≤ U1.heap.size) := ⟨Nat.le_trans HS0.out (Nat.le_of_lt (RN.lt HS.out (by simp [Value.ownBlock])))⟩
     have HS := Aside0.mk (RN.below' HS.out hb)
     clear hb
     by_cases hj0 : j = 0
     ·
      have gj : decide ((j : Int) > 0) = false := decide_eq_false (fun h => by rw [hj0] at h; exact absurd h (by decide))
      have gj2 : decide (0 < j) = false := decide_eq_false (fun h => by rw [hj0] at h; exact absurd h (by decide))
      have HX : Aside0 ((U1.alloc (boxN ⟨⟨1, (j : Int) + 1⟩, ⟨0, 0⟩, (j : Int) + 1, a1⟩)).heap[U1.heap.size]? = some (boxN (eN a1 j))) := ⟨by rw [← eN_zero a1 hj0]; exact HX.out⟩
      have HJ0 := Aside0.mk hj0
      clear hj0
      have hs0 : ((eL k a1).take j ++ (eL k a1).drop j)[j]? = some (eN a1 j) := by rw [mid_at]; exact eL_get a1 hlt
      have HS6 := Aside0.mk hs0
      clear hs0
      go_wp2_with fail
      refine AnyOrder.wp_region (by kernel_rfl) (lg21Inv (U1.alloc (boxN ⟨⟨1, (j : Int) + 1⟩, ⟨0, 0⟩, (j : Int) + 1, a1⟩)).drew k cs gs U1.heap.size j a1 _ _ _ _ _ _ _ _ _ _ _ _ _ _ _ _ _ _ _ _ _ _ _ _ _ _ _ _ _ _ _ _ _ _ _ _ _ _ _ _ _ _ _ _ _ _ _ _ _ _ _ _ _ _ _ _ _ _ _ _ _ _ _ _ _ _ _ _ _ _ _ _ _ _ _ _ _ _ _ _ _ _ _ _ _ _ _ _ _ _ _ _ _ _ _ _ _ _ _ _ _ _ _ _ _ _ _ _ _ _ _ _ _ _ _ _ _ _ _ _ _ _ _ _ _ _ _ _ _ _ _ _ _ _ _ _ _ _ _ _ _ _ _) ⟨false, false, false, false, false, false, false, false, false, false, rfl, rfl, ⟨Below.refl _ _⟩⟩ ?step ?last
      case step =>
       rintro L ac V i ⟨l0, l1, l2, l3, l4, l5, l6, l7, l8, l9, rfl, rfl, HF⟩ hi K hK
       have h1 : i = 0 ∨ i = 1 ∨ i = 2 ∨ i = 3 ∨ i = 4 ∨ i = 5 ∨ i = 6 ∨ i = 7 ∨ i = 8 ∨ i = 9 := by
        have h1 := (AnyOrder.mem_ready hi).1
        clear hi hK
        change i < 10 at h1
        omega
       rcases h1 with rfl | rfl | rfl | rfl | rfl | rfl | rfl | rfl | rfl | rfl
       ·
        obtain rfl : l0 = false := (AnyOrder.mem_ready hi).2.1
        clear hi
        refine AnyOrder.wpOp_go rfl (by rfl) ?_
        go_wp2_with fail
        exact ⟨true, l1, l2, l3, l4, l5, l6, l7, l8, l9, rfl, rfl, HF⟩
       ·
        obtain rfl : l1 = false := (AnyOrder.mem_ready hi).2.1
        obtain rfl : l0 = true := AnyOrder.dep (q := 0) hi rfl rfl rfl
        clear hi
        simp only [sel_true, selv_true] at hK ⊢
        have gk := HG3.out
        refine AnyOrder.wpOp_go rfl (by rfl) ?_
        go_wp2_with fail
        exact ⟨true, true, l2, l3, l4, l5, l6, l7, l8, l9, rfl, rfl, HF⟩
       ·
        obtain rfl : l2 = false := (AnyOrder.mem_ready hi).2.1
        obtain rfl : l1 = true := AnyOrder.dep (q := 0) hi rfl rfl rfl
        clear hi
        simp only [sel_true, selv_true] at hK ⊢
        refine AnyOrder.wpOp_go rfl (by rfl) ?_
        go_wp2_with fail
        exact ⟨l0, true, true, l3, l4, l5, l6, l7, l8, l9, rfl, rfl, HF⟩
       ·
        obtain rfl : l3 = false := (AnyOrder.mem_ready hi).2.1
        obtain rfl : l2 = true := AnyOrder.dep (q := 0) hi rfl rfl rfl
        clear hi
        simp only [sel_true, selv_true] at hK ⊢
        refine AnyOrder.wpOp_go rfl (by rfl) ?_
        go_wp2_with fail
        exact ⟨l0, l1, true, true, l4, l5, l6, l7, l8, l9, rfl, rfl, HF⟩
       ·
        obtain rfl : l4 = false := (AnyOrder.mem_ready hi).2.1
        obtain rfl : l2 = true := AnyOrder.dep (q := 0) hi rfl rfl rfl
        clear hi
        simp only [sel_true, selv_true] at hK ⊢
        refine AnyOrder.wpOp_go rfl (by rfl) ?_
        go_wp2_with fail
        exact ⟨l0, l1, true, l3, true, l5, l6, l7, l8, l9, rfl, rfl, HF⟩
       ·
        obtain rfl : l5 = false := (AnyOrder.mem_ready hi).2.1
        obtain rfl : l3 = true := AnyOrder.dep (q := 0) hi rfl rfl rfl
        obtain rfl : l4 = true := AnyOrder.dep (q := 1) hi rfl rfl rfl
        obtain rfl : l2 = true := AnyOrder.dep (q := 2) hi rfl rfl rfl
        clear hi
        simp only [sel_true, selv_true] at hK ⊢
        have hjj := HJ.out
        refine AnyOrder.wpOp_go rfl (by rfl) ?_
        go_wp2_with fail
        exact ⟨l0, l1, true, true, true, true, l6, l7, l8, l9, rfl, rfl, HF⟩
       ·
        obtain rfl : l6 = false := (AnyOrder.mem_ready hi).2.1
        obtain rfl : l5 = true := AnyOrder.dep (q := 0) hi rfl rfl rfl
        obtain rfl : l2 = true := AnyOrder.dep (q := 1) hi rfl rfl rfl
        clear hi
        simp only [sel_true, selv_true] at hK ⊢
        obtain ⟨ad, e, q0, q1, q2, q3, q4, q5⟩ := node_at (Kd.R_reads' HS.out).2.2 (below_more (below_drew1 (Below.refl _ (U1.alloc (boxN ⟨⟨1, (j : Int) + 1⟩, ⟨0, 0⟩, (j : Int) + 1, a1⟩)))) HF.out) j _ HS6.out
        cases e
        rw [add_lit, Nat.zero_add] at q0 q1 q2 q3 q4 q5
        refine AnyOrder.wpOp_go rfl (by rfl) ?_
        go_wp2_with fail
        exact ⟨l0, l1, true, l3, l4, true, true, l7, l8, l9, rfl, rfl, HF⟩
       ·
        obtain rfl : l7 = false := (AnyOrder.mem_ready hi).2.1
        obtain rfl : l2 = true := AnyOrder.dep (q := 0) hi rfl rfl rfl
        clear hi
        simp only [sel_true, selv_true] at hK ⊢
        obtain ⟨q0, q1, q2, q3, q4, q5⟩ := box_six (blk_keep HX.out (below_more (below_drew1 (Below.refl _ (U1.alloc (boxN ⟨⟨1, (j : Int) + 1⟩, ⟨0, 0⟩, (j : Int) + 1, a1⟩)))) HF.out))
        refine AnyOrder.wpOp_go rfl (by rfl) ?_
        go_wp2_with fail
        exact ⟨l0, l1, true, l3, l4, l5, l6, true, l8, l9, rfl, rfl, HF⟩
       ·
        obtain rfl : l8 = false := (AnyOrder.mem_ready hi).2.1
        obtain rfl : l6 = true := AnyOrder.dep (q := 0) hi rfl rfl rfl
        obtain rfl : l7 = true := AnyOrder.dep (q := 1) hi rfl rfl rfl
        obtain rfl : l2 = true := AnyOrder.dep (q := 2) hi rfl rfl rfl
        clear hi
        simp only [sel_true, selv_true] at hK ⊢
        refine AnyOrder.wpOp_go rfl (by rfl) ?_
        go_wp2_with fail
        exact ⟨l0, l1, true, l3, l4, l5, true, true, true, l9, rfl, rfl, HF⟩
       ·
        obtain rfl : l9 = false := (AnyOrder.mem_ready hi).2.1
        obtain rfl : l2 = true := AnyOrder.dep (q := 0) hi rfl rfl rfl
        obtain rfl : l8 = true := AnyOrder.dep (q := 1) hi rfl rfl rfl
        clear hi
        simp only [sel_true, selv_true] at hK ⊢
        refine AnyOrder.wpOp_go rfl (by rfl) ?_
        go_wp2_with fail
        exact ⟨l0, l1, true, l3, l4, l5, l6, l7, true, true, rfl, rfl, HF⟩
      case last =>
       rintro L ac V ⟨l0, l1, l2, l3, l4, l5, l6, l7, l8, l9, rfl, rfl, HF⟩ hr
       have hall := AnyOrder.all_listed rfl (by kernel_rfl) hr
       clear hr
       obtain rfl : l0 = true := hall 0 (by decide)
       obtain rfl : l1 = true := hall 1 (by decide)
       obtain rfl : l2 = true := hall 2 (by decide)
       obtain rfl : l3 = true := hall 3 (by decide)
       obtain rfl : l4 = true := hall 4 (by decide)
       obtain rfl : l5 = true := hall 5 (by decide)
       obtain rfl : l6 = true := hall 6 (by decide)
       obtain rfl : l7 = true := hall 7 (by decide)
       obtain rfl : l8 = true := hall 8 (by decide)
       obtain rfl : l9 = true := hall 9 (by decide)
       clear hall
       simp only [sel_true, selv_true]
       have hdq := below_more (below_drew1 (Below.refl _ (U1.alloc (boxN ⟨⟨1, (j : Int) + 1⟩, ⟨0, 0⟩, (j : Int) + 1, a1⟩)))) HF.out
       clear HF
       have HX := Aside0.mk (blk_keep HX.out hdq)
       have HB := Aside0.mk (below_more HB.out hdq)
       have HS := Aside0.mk (RN.below' HS.out hdq)
       clear hdq
       obtain ⟨x0, x1, x2, x3, x4, x5⟩ := box_six HX.out
       go_wp2_with (refine wpList_putNode rfl (.tmp 95) (.tmp 94) rfl rfl (eN a1 j) HS.out hlt rfl rfl ?_; intro U5 hr5 hg5)
       rw [set_mid (eL_get a1 hlt) (by rw [HL0.out]; exact hlt)] at hr5
       have HS := Aside0.mk hr5
       have HB := Aside0.mk (HB.out.grown hg5 HB.out.size (fun q e => by cases e; exact HS0.out))
       clear hr5 hg5 x0 x1 x2 x3 x4 x5
       go_roundw
       case rel => exact ⟨j + 1, by go_num, by omega, HS, HB⟩
       case measure => simp [intOf]; omega
     ·
      have gj : decide ((j : Int) > 0) = true := decide_eq_true (Int.natCast_pos.2 (Nat.pos_of_ne_zero hj0))
      have gj2 : decide (0 < j) = true := decide_eq_true (Nat.pos_of_ne_zero hj0)
      have HJ0 := Aside0.mk hj0
      clear hj0
      go_wp2_with fail
      refine (redpencillaw15_dot.calls 1 (j : Int) 1 (j : Int) (U1.alloc (boxN ⟨⟨1, (j : Int) + 1⟩, ⟨0, 0⟩, (j : Int) + 1, a1⟩)) rfl).mono ?_
      rintro e U2 ⟨rfl, hb⟩
      have HX := Aside0.mk (blk_keep HX.out hb)
      have HB := Aside0.mk (below_more HB.out hb)
      have HS := Aside0.mk (RN.below' HS.out hb)
      clear hb gj gj2
      go_wp2_with (refine wpList_boxParent rfl (.tmp 81) (.tmp 80) rfl rfl HX.out ⟨1, (j : Int)⟩ rfl rfl ?_; intro U3 hx3 hg3)
      rw [eN_succ a1 HJ0.out] at hx3
      have HX := Aside0.mk hx3
      have HB := Aside0.mk (HB.out.grown hg3 HB.out.size (fun q e => by cases e; exact HWU.out))
      have HS := Aside0.mk (RN.keep HS.out (fun q hq => by
       have hq' : gs = q := by simpa [Value.ownBlock] using hq
       subst hq'
       exact hg3.block _ (RN.lt HS.out hq) (fun e => HNE.out (Option.some.inj e))))
      clear hx3 hg3
      have hs0 : ((eL k a1).take j ++ (eL k a1).drop j)[j]? = some (eN a1 j) := by rw [mid_at]; exact eL_get a1 hlt
      have HS6 := Aside0.mk hs0
      clear hs0
      go_wp2_with fail
      refine AnyOrder.wp_region (by kernel_rfl) (lg21Inv U3.drew k cs gs U1.heap.size j a1 _ _ _ _ _ _ _ _ _ _ _ _ _ _ _ _ _ _ _ _ _ _ _ _ _ _ _ _ _ _ _ _ _ _ _ _ _ _ _ _ _ _ _ _ _ _ _ _ _ _ _ _ _ _ _ _ _ _ _ _ _ _ _ _ _ _ _ _ _ _ _ _ _ _ _ _ _ _ _ _ _ _ _ _ _ _ _ _ _ _ _ _ _ _ _ _ _ _ _ _ _ _ _ _ _ _ _ _ _ _ _ _ _ _ _ _ _ _ _ _ _ _ _ _ _ _ _ _ _ _ _ _ _ _ _ _ _ _ _ _ _ _ _) ⟨false, false, false, false, false, false, false, false, false, false, rfl, rfl, ⟨Below.refl _ _⟩⟩ ?step ?last
      case step =>
       rintro L ac V i ⟨l0, l1, l2, l3, l4, l5, l6, l7, l8, l9, rfl, rfl, HF⟩ hi K hK
       have h1 : i = 0 ∨ i = 1 ∨ i = 2 ∨ i = 3 ∨ i = 4 ∨ i = 5 ∨ i = 6 ∨ i = 7 ∨ i = 8 ∨ i = 9 := by
        have h1 := (AnyOrder.mem_ready hi).1
        clear hi hK
        change i < 10 at h1
        omega
       rcases h1 with rfl | rfl | rfl | rfl | rfl | rfl | rfl | rfl | rfl | rfl
       ·
        obtain rfl : l0 = false := (AnyOrder.mem_ready hi).2.1
        clear hi
        refine AnyOrder.wpOp_go rfl (by rfl) ?_
        go_wp2_with fail
        exact ⟨true, l1, l2, l3, l4, l5, l6, l7, l8, l9, rfl, rfl, HF⟩
       ·
        obtain rfl : l1 = false := (AnyOrder.mem_ready hi).2.1
        obtain rfl : l0 = true := AnyOrder.dep (q := 0) hi rfl rfl rfl
        clear hi
        simp only [sel_true, selv_true] at hK ⊢
        have gk := HG3.out
        refine AnyOrder.wpOp_go rfl (by rfl) ?_
        go_wp2_with fail
        exact ⟨true, true, l2, l3, l4, l5, l6, l7, l8, l9, rfl, rfl, HF⟩
       ·
        obtain rfl : l2 = false := (AnyOrder.mem_ready hi).2.1
        obtain rfl : l1 = true := AnyOrder.dep (q := 0) hi rfl rfl rfl
        clear hi
        simp only [sel_true, selv_true] at hK ⊢
        refine AnyOrder.wpOp_go rfl (by rfl) ?_
        go_wp2_with fail
        exact ⟨l0, true, true, l3, l4, l5, l6, l7, l8, l9, rfl, rfl, HF⟩
       ·
        obtain rfl : l3 = false := (AnyOrder.mem_ready hi).2.1
        obtain rfl : l2 = true := AnyOrder.dep (q := 0) hi rfl rfl rfl
        clear hi
        simp only [sel_true, selv_true] at hK ⊢
        refine AnyOrder.wpOp_go rfl (by rfl) ?_
        go_wp2_with fail
        exact ⟨l0, l1, true, true, l4, l5, l6, l7, l8, l9, rfl, rfl, HF⟩
       ·
        obtain rfl : l4 = false := (AnyOrder.mem_ready hi).2.1
        obtain rfl : l2 = true := AnyOrder.dep (q := 0) hi rfl rfl rfl
        clear hi
        simp only [sel_true, selv_true] at hK ⊢
        refine AnyOrder.wpOp_go rfl (by rfl) ?_
        go_wp2_with fail
        exact ⟨l0, l1, true, l3, true, l5, l6, l7, l8, l9, rfl, rfl, HF⟩
       ·
        obtain rfl : l5 = false := (AnyOrder.mem_ready hi).2.1
        obtain rfl : l3 = true := AnyOrder.dep (q := 0) hi rfl rfl rfl
        obtain rfl : l4 = true := AnyOrder.dep (q := 1) hi rfl rfl rfl
        obtain rfl : l2 = true := AnyOrder.dep (q := 2) hi rfl rfl rfl
        clear hi
        simp only [sel_true, selv_true] at hK ⊢
        have hjj := HJ.out
        refine AnyOrder.wpOp_go rfl (by rfl) ?_
        go_wp2_with fail
        exact ⟨l0, l1, true, true, true, true, l6, l7, l8, l9, rfl, rfl, HF⟩
       ·
        obtain rfl : l6 = false := (AnyOrder.mem_ready hi).2.1
        obtain rfl : l5 = true := AnyOrder.dep (q := 0) hi rfl rfl rfl
        obtain rfl : l2 = true := AnyOrder.dep (q := 1) hi rfl rfl rfl
        clear hi
        simp only [sel_true, selv_true] at hK ⊢
        obtain ⟨ad, e, q0, q1, q2, q3, q4, q5⟩ := node_at (Kd.R_reads' HS.out).2.2 (below_more (below_drew1 (Below.refl _ U3)) HF.out) j _ HS6.out
        cases e
        rw [add_lit, Nat.zero_add] at q0 q1 q2 q3 q4 q5
        refine AnyOrder.wpOp_go rfl (by rfl) ?_
        go_wp2_with fail
        exact ⟨l0, l1, true, l3, l4, true, true, l7, l8, l9, rfl, rfl, HF⟩
       ·
        obtain rfl : l7 = false := (AnyOrder.mem_ready hi).2.1
        obtain rfl : l2 = true := AnyOrder.dep (q := 0) hi rfl rfl rfl
        clear hi
        simp only [sel_true, selv_true] at hK ⊢
        obtain ⟨q0, q1, q2, q3, q4, q5⟩ := box_six (blk_keep HX.out (below_more (below_drew1 (Below.refl _ U3)) HF.out))
        refine AnyOrder.wpOp_go rfl (by rfl) ?_
        go_wp2_with fail
        exact ⟨l0, l1, true, l3, l4, l5, l6, true, l8, l9, rfl, rfl, HF⟩
       ·
        obtain rfl : l8 = false := (AnyOrder.mem_ready hi).2.1
        obtain rfl : l6 = true := AnyOrder.dep (q := 0) hi rfl rfl rfl
        obtain rfl : l7 = true := AnyOrder.dep (q := 1) hi rfl rfl rfl
        obtain rfl : l2 = true := AnyOrder.dep (q := 2) hi rfl rfl rfl
        clear hi
        simp only [sel_true, selv_true] at hK ⊢
        refine AnyOrder.wpOp_go rfl (by rfl) ?_
        go_wp2_with fail
        exact ⟨l0, l1, true, l3, l4, l5, true, true, true, l9, rfl, rfl, HF⟩
       ·
        obtain rfl : l9 = false := (AnyOrder.mem_ready hi).2.1
        obtain rfl : l2 = true := AnyOrder.dep (q := 0) hi rfl rfl rfl
        obtain rfl : l8 = true := AnyOrder.dep (q := 1) hi rfl rfl rfl
        clear hi
        simp only [sel_true, selv_true] at hK ⊢
        refine AnyOrder.wpOp_go rfl (by rfl) ?_
        go_wp2_with fail
        exact ⟨l0, l1, true, l3, l4, l5, l6, l7, true, true, rfl, rfl, HF⟩
      case last =>
       rintro L ac V ⟨l0, l1, l2, l3, l4, l5, l6, l7, l8, l9, rfl, rfl, HF⟩ hr
       have hall := AnyOrder.all_listed rfl (by kernel_rfl) hr
       clear hr
       obtain rfl : l0 = true := hall 0 (by decide)
       obtain rfl : l1 = true := hall 1 (by decide)
       obtain rfl : l2 = true := hall 2 (by decide)
       obtain rfl : l3 = true := hall 3 (by decide)
       obtain rfl : l4 = true := hall 4 (by decide)
       obtain rfl : l5 = true := hall 5 (by decide)
       obtain rfl : l6 = true := hall 6 (by decide)
       obtain rfl : l7 = true := hall 7 (by decide)
       obtain rfl : l8 = true := hall 8 (by decide)
       obtain rfl : l9 = true := hall 9 (by decide)
       clear hall
       simp only [sel_true, selv_true]
       have hdq := below_more (below_drew1 (Below.refl _ U3)) HF.out
       clear HF
       have HX := Aside0.mk (blk_keep HX.out hdq)
       have HB := Aside0.mk (below_more HB.out hdq)
       have HS := Aside0.mk (RN.below' HS.out hdq)
       clear hdq
       obtain ⟨x0, x1, x2, x3, x4, x5⟩ := box_six HX.out
       go_wp2_with (refine wpList_putNode rfl (.tmp 95) (.tmp 94) rfl rfl (eN a1 j) HS.out hlt rfl rfl ?_; intro U5 hr5 hg5)
       rw [set_mid (eL_get a1 hlt) (by rw [HL0.out]; exact hlt)] at hr5
       have HS := Aside0.mk hr5
       have HB := Aside0.mk (HB.out.grown hg5 HB.out.size (fun q e => by cases e; exact HS0.out))
       clear hr5 hg5 x0 x1 x2 x3 x4 x5
       go_roundw
       case rel => exact ⟨j + 1, by go_num, by omega, HS, HB⟩
       case measure => simp [intOf]; omega
    ·
     obtain rfl : j = k := by omega
     rw [show (eL j a1).take j ++ (eL j a1).drop j = eL j a1 by rw [List.take_of_length_le (by rw [eL_length]; exact Nat.le_refl _), List.drop_of_length_le (by rw [HL0.out]; exact Nat.le_refl _), List.append_nil]] at HS
     have HSC := Aside0.mk (Kd.R_reads' HS.out).2
     rw [eL_length] at HSC
     have hcall := edit_Delete.calls (some ⟨gs, 0, none⟩) cs (eL j a1) 0 (j : Int) ((eL j a1).map deadN) 0 wr (by rw [eL_length]; exact HSC.out.2) (by rw [eL_length]; exact HSC.out.1) (by rw [delete_long (by have := HM.out; omega) Hb.out, if_neg HBIG.out])
     rw [eL_length] at hcall
     have HCALL := Aside0.mk hcall
     have gb : decide ((j : Int) > 10000) = false := decide_eq_false (by have := HBIG.out; omega)
     have gb2 : decide ((10000 : Int) < (j : Int)) = false := decide_eq_false (by have := HBIG.out; omega)
     clear hcall hlt
     go_wp2_with fail
     refine HCALL.out.mono ?_
     rintro e V5 ⟨v5, rfl, hr5, hb⟩
     have HB := Aside0.mk (below_more HB.out hb)
     have HSC := Aside0.mk (show j ≤ cs ∧ Kd.C k53 V5 (some ⟨gs, 0, none⟩) j (eL j a1) from ⟨HSC.out.1, Kd.C_below HSC.out.2 hb⟩)
     obtain ⟨g5, c5, e5, _⟩ := Kd.R_form hr5 (by rw [List.length_map, eL_length]; have := HM.out; omega)
     subst e5
     have HG5 := Aside0.mk (Kd.R_reads' hr5).2.2
     have HGL5 : Aside0 (((eL j a1).map deadN).length = j) := ⟨by rw [List.length_map, eL_length]⟩
     clear hr5 hb HCALL
     rw [HGL5.out] at HG5 ⊢
     go_wp2_with fail
     go_loopw [12] (fun i wr => ∃ q : Nat, i = .int .i64 q ∧ q ≤ j ∧ Aside0 (Below V5.heap.size V5 wr)) (fun i _ => j - (intOf i).toNat)
     case atStart => exact ⟨0, rfl, Nat.zero_le _, ⟨Below.refl _ _⟩⟩
     case round =>
      obtain ⟨q, rfl, hq, HBV⟩ := hrel
      by_cases hlt : q < j
      ·
       have hltb : decide ((q : Int) < (j : Int)) = true := decide_eq_true (by omega)
       have HQJ : Aside0 (q < j ∧ j ≤ 10002) := ⟨hlt, HM.out.2⟩
       go_wp2_with fail
       refine AnyOrder.wp_region (by kernel_rfl) (lg32Inv wr.drew j cs gs g5 c5 q a1 _ _ _ _ _ _ _ _ _ _ _ _ _ _ _ _ _ _ _ _ _ _ _ _ _ _ _ _ _ _ _ _ _ _ _ _ _ _ _ _ _ _ _ _ _ _ _ _ _ _ _ _ _ _ _ _ _ _ _ _ _ _ _ _ _ _ _ _ _ _ _ _ _ _ _ _ _ _ _ _ _ _ _ _ _ _ _ _ _ _ _ _ _ _ _ _ _ _ _ _ _ _ _ _ _ _ _ _ _ _ _ _ _ _ _ _ _ _ _ _ _ _ _ _ _ _ _ _ _ _ _ _ _ _ _ _ _ _ _ _ _ _ _) ⟨false, false, false, false, false, false, false, false, false, false, false, false, false, false, false, false, false, false, false, rfl, rfl, ⟨Below.refl _ _⟩⟩ ?step ?last
       case step =>
        rintro L ac V i ⟨l0, l1, l2, l3, l4, l5, l6, l7, l8, l9, l10, l11, l12, l13, l14, l15, l16, l17, l18, rfl, rfl, HF⟩ hi K hK
        have h1 : i = 0 ∨ i = 1 ∨ i = 2 ∨ i = 3 ∨ i = 4 ∨ i = 5 ∨ i = 6 ∨ i = 7 ∨ i = 8 ∨ i = 9 ∨ i = 10 ∨ i = 11 ∨ i = 12 ∨ i = 13 ∨ i = 14 ∨ i = 15 ∨ i = 16 ∨ i = 17 ∨ i = 18 := by
         have h1 := (AnyOrder.mem_ready hi).1
         clear hi hK
         change i < 19 at h1
         omega
        rcases h1 with rfl | rfl | rfl | rfl | rfl | rfl | rfl | rfl | rfl | rfl | rfl | rfl | rfl | rfl | rfl | rfl | rfl | rfl | rfl
        ·
         obtain rfl : l0 = false := (AnyOrder.mem_ready hi).2.1
         clear hi
         refine AnyOrder.wpOp_go rfl (by rfl) ?_
         go_wp2_with fail
         exact ⟨true, l1, l2, l3, l4, l5, l6, l7, l8, l9, l10, l11, l12, l13, l14, l15, l16, l17, l18, rfl, rfl, HF⟩
        ·
         obtain rfl : l1 = false := (AnyOrder.mem_ready hi).2.1
         clear hi
         refine AnyOrder.wpOp_go rfl (by rfl) ?_
         go_wp2_with fail
         exact ⟨l0, true, l2, l3, l4, l5, l6, l7, l8, l9, l10, l11, l12, l13, l14, l15, l16, l17, l18, rfl, rfl, HF⟩
        ·
         obtain rfl : l2 = false := (AnyOrder.mem_ready hi).2.1
         obtain rfl : l0 = true := AnyOrder.dep (q := 0) hi rfl rfl rfl
         obtain rfl : l1 = true := AnyOrder.dep (q := 1) hi rfl rfl rfl
         clear hi
         simp only [sel_true, selv_true] at hK ⊢
         have hjj := HQJ.out
         refine AnyOrder.wpOp_go rfl (by rfl) ?_
         go_wp2_with fail
         exact ⟨true, true, true, l3, l4, l5, l6, l7, l8, l9, l10, l11, l12, l13, l14, l15, l16, l17, l18, rfl, rfl, HF⟩
        ·
         obtain rfl : l3 = false := (AnyOrder.mem_ready hi).2.1
         obtain rfl : l2 = true := AnyOrder.dep (q := 0) hi rfl rfl rfl
         clear hi
         simp only [sel_true, selv_true] at hK ⊢
         refine AnyOrder.wpOp_go rfl (by rfl) ?_
         go_wp2_with fail
         exact ⟨l0, l1, true, true, l4, l5, l6, l7, l8, l9, l10, l11, l12, l13, l14, l15, l16, l17, l18, rfl, rfl, HF⟩
        ·
         obtain rfl : l4 = false := (AnyOrder.mem_ready hi).2.1
         obtain rfl : l3 = true := AnyOrder.dep (q := 0) hi rfl rfl rfl
         clear hi
         simp only [sel_true, selv_true] at hK ⊢
         obtain ⟨ad, e, q0, q1, q2, q3, q4, q5⟩ := node_at HG5.out (below_more HBV.out (below_more (below_drew1 (Below.refl _ wr)) HF.out)) q (deadN (eN a1 q)) (by rw [List.getElem?_map, eL_get a1 HQJ.out.1]; rfl)
         cases e
         rw [add_lit, Nat.zero_add] at q0 q1 q2 q3 q4 q5
         refine AnyOrder.wpOp_go rfl (by rfl) ?_
         go_wp2_with fail
         exact ⟨l0, l1, l2, true, true, l5, l6, l7, l8, l9, l10, l11, l12, l13, l14, l15, l16, l17, l18, rfl, rfl, HF⟩
        ·
         obtain rfl : l5 = false := (AnyOrder.mem_ready hi).2.1
         clear hi
         refine AnyOrder.wpOp_go rfl (by rfl) ?_
         go_wp2_with fail
         exact ⟨l0, l1, l2, l3, l4, true, l6, l7, l8, l9, l10, l11, l12, l13, l14, l15, l16, l17, l18, rfl, rfl, HF⟩
        ·
         obtain rfl : l6 = false := (AnyOrder.mem_ready hi).2.1
         clear hi
         refine AnyOrder.wpOp_go rfl (by rfl) ?_
         go_wp2_with fail
         exact ⟨l0, l1, l2, l3, l4, l5, true, l7, l8, l9, l10, l11, l12, l13, l14, l15, l16, l17, l18, rfl, rfl, HF⟩
        ·
         obtain rfl : l7 = false := (AnyOrder.mem_ready hi).2.1
         obtain rfl : l5 = true := AnyOrder.dep (q := 0) hi rfl rfl rfl
         obtain rfl : l6 = true := AnyOrder.dep (q := 1) hi rfl rfl rfl
         clear hi
         simp only [sel_true, selv_true] at hK ⊢
         have hjj := HQJ.out
         refine AnyOrder.wpOp_go rfl (by rfl) ?_
         go_wp2_with fail
         exact ⟨l0, l1, l2, l3, l4, true, true, true, l8, l9, l10, l11, l12, l13, l14, l15, l16, l17, l18, rfl, rfl, HF⟩
        ·
         obtain rfl : l8 = false := (AnyOrder.mem_ready hi).2.1
         obtain rfl : l7 = true := AnyOrder.dep (q := 0) hi rfl rfl rfl
         clear hi
         simp only [sel_true, selv_true] at hK ⊢
         refine AnyOrder.wpOp_go rfl (by rfl) ?_
         go_wp2_with fail
         exact ⟨l0, l1, l2, l3, l4, l5, l6, true, true, l9, l10, l11, l12, l13, l14, l15, l16, l17, l18, rfl, rfl, HF⟩
        ·
         obtain rfl : l9 = false := (AnyOrder.mem_ready hi).2.1
         obtain rfl : l8 = true := AnyOrder.dep (q := 0) hi rfl rfl rfl
         clear hi
         simp only [sel_true, selv_true] at hK ⊢
         obtain ⟨ad, e, q0, q1, q2, q3, q4, q5⟩ := node_at HSC.out.2 (below_more HBV.out (below_more (below_drew1 (Below.refl _ wr)) HF.out)) q (eN a1 q) (eL_get a1 HQJ.out.1)
         cases e
         rw [add_lit, Nat.zero_add] at q0 q1 q2 q3 q4 q5
         refine AnyOrder.wpOp_go rfl (by rfl) ?_
         go_wp2_with fail
         exact ⟨l0, l1, l2, l3, l4, l5, l6, l7, true, true, l10, l11, l12, l13, l14, l15, l16, l17, l18, rfl, rfl, HF⟩
        ·
         obtain rfl : l10 = false := (AnyOrder.mem_ready hi).2.1
         obtain rfl : l4 = true := AnyOrder.dep (q := 0) hi rfl rfl rfl
         obtain rfl : l9 = true := AnyOrder.dep (q := 1) hi rfl rfl rfl
         clear hi
         simp only [sel_true, selv_true] at hK ⊢
         refine AnyOrder.wpOp_go rfl (by rfl) ?_
         go_wp2_with fail
         exact ⟨l0, l1, l2, l3, true, l5, l6, l7, l8, true, true, l11, l12, l13, l14, l15, l16, l17, l18, rfl, rfl, HF⟩
        ·
         obtain rfl : l11 = false := (AnyOrder.mem_ready hi).2.1
         obtain rfl : l10 = true := AnyOrder.dep (q := 0) hi rfl rfl rfl
         clear hi
         simp only [sel_true, selv_true] at hK ⊢
         refine AnyOrder.wpOp_go rfl (by rfl) ?_
         go_wp2_with fail
         exact ⟨l0, l1, l2, l3, l4, l5, l6, l7, l8, l9, true, true, l12, l13, l14, l15, l16, l17, l18, rfl, rfl, HF⟩
        ·
         obtain rfl : l12 = false := (AnyOrder.mem_ready hi).2.1
         obtain rfl : l11 = true := AnyOrder.dep (q := 0) hi rfl rfl rfl
         clear hi
         simp only [sel_true, selv_true] at hK ⊢
         refine AnyOrder.wpOp_go rfl (by rfl) ?_
         go_wp2_with fail
         exact ⟨l0, l1, l2, l3, l4, l5, l6, l7, l8, l9, l10, true, true, l13, l14, l15, l16, l17, l18, rfl, rfl, HF⟩
        ·
         obtain rfl : l13 = false := (AnyOrder.mem_ready hi).2.1
         obtain rfl : l11 = true := AnyOrder.dep (q := 0) hi rfl rfl rfl
         clear hi
         simp only [sel_true, selv_true] at hK ⊢
         refine AnyOrder.wpOp_go rfl (by rfl) ?_
         go_wp2_with fail
         exact ⟨l0, l1, l2, l3, l4, l5, l6, l7, l8, l9, l10, true, l12, true, l14, l15, l16, l17, l18, rfl, rfl, HF⟩
        ·
         obtain rfl : l14 = false := (AnyOrder.mem_ready hi).2.1
         obtain rfl : l12 = true := AnyOrder.dep (q := 0) hi rfl rfl rfl
         obtain rfl : l13 = true := AnyOrder.dep (q := 1) hi rfl rfl rfl
         obtain rfl : l11 = true := AnyOrder.dep (q := 2) hi rfl rfl rfl
         clear hi
         simp only [sel_true, selv_true] at hK ⊢
         have hjj := HQJ.out
         refine AnyOrder.wpOp_go rfl (by rfl) ?_
         go_wp2_with fail
         exact ⟨l0, l1, l2, l3, l4, l5, l6, l7, l8, l9, l10, true, true, true, true, l15, l16, l17, l18, rfl, rfl, HF⟩
        ·
         obtain rfl : l15 = false := (AnyOrder.mem_ready hi).2.1
         obtain rfl : l14 = true := AnyOrder.dep (q := 0) hi rfl rfl rfl
         obtain rfl : l11 = true := AnyOrder.dep (q := 1) hi rfl rfl rfl
         clear hi
         simp only [sel_true, selv_true] at hK ⊢
         refine AnyOrder.wpOp_go rfl (by rfl) ?_
         go_wp2_with fail
         exact ⟨l0, l1, l2, l3, l4, l5, l6, l7, l8, l9, l10, true, l12, l13, true, true, l16, l17, l18, rfl, rfl, HF⟩
        ·
         obtain rfl : l16 = false := (AnyOrder.mem_ready hi).2.1
         obtain rfl : l15 = true := AnyOrder.dep (q := 0) hi rfl rfl rfl
         obtain rfl : l11 = true := AnyOrder.dep (q := 1) hi rfl rfl rfl
         clear hi
         simp only [sel_true, selv_true] at hK ⊢
         obtain ⟨ad, e, q0, q1, q2, q3, q4, q5⟩ := node_at HG5.out (below_more HBV.out (below_more (below_drew1 (Below.refl _ wr)) HF.out)) q (deadN (eN a1 q)) (by rw [List.getElem?_map, eL_get a1 HQJ.out.1]; rfl)
         cases e
         rw [add_lit, Nat.zero_add] at q0 q1 q2 q3 q4 q5
         refine AnyOrder.wpOp_go rfl (by rfl) ?_
         go_wp2_with fail
         exact ⟨l0, l1, l2, l3, l4, l5, l6, l7, l8, l9, l10, true, l12, l13, l14, true, true, l17, l18, rfl, rfl, HF⟩
        ·
         obtain rfl : l17 = false := (AnyOrder.mem_ready hi).2.1
         obtain rfl : l16 = true := AnyOrder.dep (q := 0) hi rfl rfl rfl
         obtain rfl : l11 = true := AnyOrder.dep (q := 1) hi rfl rfl rfl
         clear hi
         simp only [sel_true, selv_true] at hK ⊢
         refine AnyOrder.wpOp_go rfl (by rfl) ?_
         go_wp2_with fail
         exact ⟨l0, l1, l2, l3, l4, l5, l6, l7, l8, l9, l10, true, l12, l13, l14, l15, true, true, l18, rfl, rfl, HF⟩
        ·
         obtain rfl : l18 = false := (AnyOrder.mem_ready hi).2.1
         obtain rfl : l11 = true := AnyOrder.dep (q := 0) hi rfl rfl rfl
         obtain rfl : l17 = true := AnyOrder.dep (q := 1) hi rfl rfl rfl
         clear hi
         simp only [sel_true, selv_true] at hK ⊢
         refine AnyOrder.wpOp_go rfl (by rfl) ?_
         go_wp2_with fail
         exact ⟨l0, l1, l2, l3, l4, l5, l6, l7, l8, l9, l10, true, l12, l13, l14, l15, l16, true, true, rfl, rfl, HF⟩
       case last =>
        rintro L ac V ⟨l0, l1, l2, l3, l4, l5, l6, l7, l8, l9, l10, l11, l12, l13, l14, l15, l16, l17, l18, rfl, rfl, HF⟩ hr
        have hall := AnyOrder.all_listed rfl (by kernel_rfl) hr
        clear hr
        obtain rfl : l0 = true := hall 0 (by decide)
        obtain rfl : l1 = true := hall 1 (by decide)
        obtain rfl : l2 = true := hall 2 (by decide)
        obtain rfl : l3 = true := hall 3 (by decide)
        obtain rfl : l4 = true := hall 4 (by decide)
        obtain rfl : l5 = true := hall 5 (by decide)
        obtain rfl : l6 = true := hall 6 (by decide)
        obtain rfl : l7 = true := hall 7 (by decide)
        obtain rfl : l8 = true := hall 8 (by decide)
        obtain rfl : l9 = true := hall 9 (by decide)
        obtain rfl : l10 = true := hall 10 (by decide)
        obtain rfl : l11 = true := hall 11 (by decide)
        obtain rfl : l12 = true := hall 12 (by decide)
        obtain rfl : l13 = true := hall 13 (by decide)
        obtain rfl : l14 = true := hall 14 (by decide)
        obtain rfl : l15 = true := hall 15 (by decide)
        obtain rfl : l16 = true := hall 16 (by decide)
        obtain rfl : l17 = true := hall 17 (by decide)
        obtain rfl : l18 = true := hall 18 (by decide)
        clear hall
        simp only [sel_true, selv_true]
        have HBV := Aside0.mk (below_more HBV.out (below_more (below_drew1 (Below.refl _ wr)) HF.out))
        have hqj := HQJ.out
        clear HF
        go_wp2_with fail
        go_roundw
        case rel => exact ⟨q + 1, by go_num, by omega, HBV⟩
        case measure => simp [intOf]; omega
      ·
       have HB := Aside0.mk (below_more HB.out HBV.out)
       have hltb : decide ((q : Int) < (j : Int)) = false := decide_eq_false (by omega)
       go_wp2_with fail
       refine (known15_call _).mono ?_
       rintro e W9 ⟨rfl, hd⟩
       go_wp2
       go_ret
       exact ⟨rfl, below_more HB.out hd⟩
end Go.Proofs.YtmbndijbpgobeaaGreat.PWalk
end
section
namespace Go.Proofs.YtmbndijbpgobeaaGreat.PWalk
open Go.RowKit Go.Proofs.YtmbndijbpgobeaaGreatW.PrintWords Go.Proofs.YtmbndijbpgobeaaGreatW.PrintLast Go.Proofs.YtmbndijbpgobeaaGreatW.PrintMore
set_option linter.unusedVariables false
set_option linter.unusedSimpArgs false
open Go.Shelf
attribute [local go_sem] Oper.semAt_some
set_option maxHeartbeats 4000000 in
set_option maxRecDepth 100000 in
theorem EditLongs.walk (a0 : Int) (w0 : (Lit.int .i64 a0).wf = true) (a1 : Int) (w1 : (Lit.int .i32 a1).wf = true) (w : World) :
  Calls Tryz.prog 7 #[.int .i64 a0, .int .i32 a1] w fun e w' => e = .returned (.bool true) ∧ Below w.heap.size w w' := by
 clear w0 w1
 have HB : Aside0 (Below w.heap.size w w) := ⟨Below.refl _ _⟩
 by_cases c1 : a0 < 9998
 ·
  have g1 : decide (a0 < 9998) = true := decide_eq_true c1
  clear c1
  go_enter Tryz.func7, Tryz.ntmps7
  go_wp2_with fail
  refine (known15_call _).mono ?_
  rintro e W9 ⟨rfl, hd⟩
  go_wp2
  go_ret
  exact ⟨rfl, below_more HB.out hd⟩
 have g1 : decide (a0 < 9998) = false := decide_eq_false c1
 by_cases c2 : a0 > 10002
 ·
  have g2 : decide (a0 > 10002) = true := decide_eq_true c2
  have g3 : decide (10002 < a0) = true := decide_eq_true c2
  clear c1 c2
  go_enter Tryz.func7, Tryz.ntmps7
  go_wp2_with fail
  refine (known15_call _).mono ?_
  rintro e W9 ⟨rfl, hd⟩
  go_wp2
  go_ret
  exact ⟨rfl, below_more HB.out hd⟩
 have g2 : decide (a0 > 10002) = false := decide_eq_false c2
 have g3 : decide (10002 < a0) = false := decide_eq_false c2
 obtain ⟨m, hm⟩ : ∃ m : Nat, a0 = (m : Int) := ⟨a0.toNat, by omega⟩
 subst hm
 have HM : Aside0 (9998 ≤ m ∧ m ≤ 10002) := ⟨by omega⟩
 obtain ⟨b, Hb⟩ : ∃ b, Aside0 (runeOk a1 = b) := ⟨_, ⟨rfl⟩⟩
 cases b
 rotate_left
 ·
  by_cases hbig : m > 10000
  ·
   exact EditLongs.big m a1 w HM.out Hb.out hbig
  ·
   exact EditLongs.small m a1 w HM.out Hb.out hbig
 have HIR := Aside0.mk (redpencilref14_IsRune.calls a1 false w (by rw [isRune_is, Hb.out]))
 have hu := Tryz.underlying53
 have hu2 := Tryz.underlying25
 clear c1 c2
 go_enter Tryz.func7, Tryz.ntmps7
 go_wp2_with fail
 refine HIR.out.mono ?_
 rintro e V0 ⟨rfl, hd⟩
 have HB := Aside0.mk (below_more HB.out (Gr.drawn hd).below)
 clear hd HIR g1 g2 g3
 go_wp2_with fail
 refine (known15_call _).mono ?_
 rintro e W9 ⟨rfl, hd⟩
 go_wp2
 go_ret
 exact ⟨rfl, below_more HB.out hd⟩
end Go.Proofs.YtmbndijbpgobeaaGreat.PWalk
end
section
namespace Go.Proofs.YtmbndijbpgobeaaGreat.editLongs
open Go.ChangeShapes Go.WideShapes Go.ChangeAt Go.RowKit
open Go.ChangeMaps (open_string shut_string)
open Go.Proofs.YtmbndijbpgobeaaGreatW.PrintWords
set_option linter.unusedVariables false
theorem own : ownKnob Tryz.prog.godebug = none := by kernel_rfl
set_option maxRecDepth 100000 in
set_option maxHeartbeats 2000000 in
theorem lifted (os : Os) (started : os.Started) (H : Type) (enc : TypeId × Value → H) :
  ReturnsInHanded {} Tryz.checked os 7 .any (Rows.editLongsSpec.pre6 enc Tryz.prog Tryz.f7 Rows.editLongsRow.domain false) (Rows.editLongsSpec.post enc Tryz.prog Tryz.f7 false true false false) := by
 refine returnsInHanded_of_change_sized (C := Tryz.checked) own started (by kernel_rfl) Tryz.func7
  (ChangeSpec.witness6 (enc := enc) (C := Tryz.checked) false ⟨#[], #[.int .i64 0, .int .i32 0], []⟩ 8 (by kernel_rfl) (by kernel_rfl) (by kernel_rfl) (by kernel_rfl)) ?_
 intro W base args ds gs before hval0 hW hcnd hsz0 _
 have hval : ∀ (j : Nat) t v, Tryz.f7.params[j]? = some t → args[j]? = some v → Value.okWide Tryz.prog W .any base t v := hval0
 have hW' := hW
 obtain ⟨p, q, hA0, hV, rfl, hfz, hnd⟩ := hW
 have hA : DataW.TrodAll enc Tryz.prog W 0 (fun _ => true) true Tryz.f7.params.toList args.toList ds p := hA0
 rw [Tryz.params7] at hA hval
 obtain ⟨v0, vs0, d0, ds0, p0, q0, hargs, rfl, rfl, h0, r0⟩ := trodAll_cons hA
 obtain ⟨v1, vs1, d1, ds1, p1, q1, rfl, rfl, rfl, h1, r1⟩ := trodAll_cons r0
 obtain ⟨rfl, rfl, rfl⟩ := trodAll_nil r1
 obtain rfl : args = #[v0, v1] := by cases args; simp_all
 obtain ⟨rfl, rfl⟩ := trodVars_none hV
 obtain ⟨a0, rfl, rfl, rfl, w0⟩ := open_int Tryz.underlying3 (hval 0 3 v0 rfl rfl) h0
 obtain ⟨a1, rfl, rfl, rfl, w1⟩ := open_int Tryz.underlying21 (hval 1 21 v1 rfl rfl) h1
 clear hA0 hval0 hsz0
 refine (PWalk.EditLongs.walk a0 w0 a1 w1 W).mono fun e W' ⟨he, bel⟩ => ?_
 subst he
 exact ⟨_, rfl, _, _, _, [], _, [], hW', trodAll_mk1 (shut_bool Tryz.underlying4 _), (trodAll_cons_mk (shut_int Tryz.underlying3 w0) (trodAll_cons_mk (shut_int Tryz.underlying21 w1) trodAll_mk0)), rfl, bel.frame _, fun h => by cases h⟩
theorem over : Rows.editLongsRow.holds Tryz.pinned (OpenSpec.ofChange Rows.editLongsSpec) :=
 OpenClaim.holds_of_wide 7 Tryz.f7 rfl rfl rfl rfl rfl rfl rfl ⟨rfl, rfl, rfl, rfl, rfl⟩ rfl rfl rfl rfl rfl (by kernel_rfl) Tryz.func7 (by kernel_rfl)
  (of_decide_eq_true (by kernel_rfl)) (by unfold Func.isWrapper; first | (rw [if_pos (by decide +kernel)]; kernel_rfl) | (rw [if_neg (by decide +kernel)]; exact ⟨rfl, rfl⟩))
  (fun os started H enc _ => lifted os started H enc)
theorem proved : Rows.EditLongsSaid := over
#print axioms proved
end Go.Proofs.YtmbndijbpgobeaaGreat.editLongs
end
