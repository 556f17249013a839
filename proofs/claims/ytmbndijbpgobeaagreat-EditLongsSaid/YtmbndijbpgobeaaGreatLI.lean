/-
  The law EditLongs returns true for every number and every rune, and leaves its input as it was: as many runes as may be inserted and deleted at once, and one more. Part 9 of 12.
-/
import Derived.Test.YtmbndijbpgobeaaGreatLH
import Derived.Laws.ResultCell
import Derived.Laws.Rows
section
namespace Go.Proofs.YtmbndijbpgobeaaGreat.PWalk
open Go.RowKit Go.Proofs.YtmbndijbpgobeaaGreatW.PrintWords Go.Proofs.YtmbndijbpgobeaaGreatW.PrintLast Go.Proofs.YtmbndijbpgobeaaGreatW.PrintMore
set_option linter.unusedVariables false
set_option linter.unusedSimpArgs false
open Go.Shelf
attribute [local go_sem] Oper.semAt_some
theorem box_six {V : World} {g : Nat} {c0 c1 c2 c3 c4 c5 : Value} (h : V.heap[g]? = some (.cells #[c0, c1, c2, c3, c4, c5] 53 (0, 0))) :
  V.cell? ⟨g, 0, none⟩ = some c0 ∧ V.cell? ⟨g, 1, none⟩ = some c1 ∧ V.cell? ⟨g, 2, none⟩ = some c2 ∧ V.cell? ⟨g, 3, none⟩ = some c3 ∧ V.cell? ⟨g, 4, none⟩ = some c4 ∧ V.cell? ⟨g, 5, none⟩ = some c5 :=
 ⟨(blk_cell h 0).trans rfl, (blk_cell h 1).trans rfl, (blk_cell h 2).trans rfl, (blk_cell h 3).trans rfl, (blk_cell h 4).trans rfl, (blk_cell h 5).trans rfl⟩
theorem results_box {fn : Func} {p u : Tmp} (h : fn.results = #[.cell p 53, .tmp u]) (tmps : Array Value) (w : World) (g : Nat) (c0 c1 c2 c3 c4 c5 : Value)
  (hp : tmps.getD p undef = .pointer (some ⟨g, 0, none⟩)) (hg : w.heap[g]? = some (.cells #[c0, c1, c2, c3, c4, c5] 53 (0, 0))) :
  (results fn tmps).run Tryz.prog w = .ok (.tuple #[.agg #[c0, c1, c2, c3, c4, c5], tmps.getD u undef]) w := by
 rw [Go.results_cell_tmp h, hp]
 have h2 := run_loadVar_row (P := Tryz.prog) w g 53 53 #[c0, c1, c2, c3, c4, c5] (0, 0) _ hg Tryz.underlying53 rfl (by kernel_rfl)
 simp [asAddr, h2]
section
variable {ops : Array Oper} {rest : List Oper} {o : Oper} {a : Act} {Q : Exit → Act → World → Prop}
/-- The operation: a node is stored into a box. -/
theorem wpList_boxNode (hgd : o.guard = none) (s x : Operand) (ho : o.op = .store 53 s x) (hd : o.dst = none) {w : World} {g : Nat} {c0 c1 c2 c3 c4 c5 : Value}
  (hg : w.heap[g]? = some (.cells #[c0, c1, c2, c3, c4, c5] 53 (0, 0))) (y : Node) (hs : a.eval s = .pointer (some ⟨g, 0, none⟩)) (hx : a.eval x = vNode y)
  (hk : ∀ w', w'.heap[g]? = some (.cells #[.int .i64 y.f0.f0, .int .i64 y.f0.f1, .int .i64 y.f1.f0, .int .i64 y.f1.f1, .int .i64 y.f2, .int .i32 y.f3] 53 (0, 0)) → w.grownBy w' (some g) → wpList Tryz.prog ops Q rest a w') : wpList Tryz.prog ops Q (o :: rest) a w := by
 obtain ⟨i0, hi0, hz0, hz1, hz2⟩ := info_parts infoN
 refine wpList_store_row hgd 53 s x ho g _ hs hx 53 _ hg (by rw [hi0]; show some i0.size = some 6; rw [hz1]) rfl (Array.all_eq_true_iff_forall_mem.2 (by intro v hv; simp at hv; rcases hv with rfl | rfl | rfl | rfl | rfl | rfl <;> rfl)) ?_
 rw [hd]
 exact hk _ (setRow_at hg _) (setRow_grown w g _)
end
def nodeZ : Node := ⟨⟨0, 0⟩, ⟨0, 0⟩, 0, 0⟩
/-- What two nodes with one dot are together. -/
def mergeN (x y : Node) : Option Node := if x.f1 = y.f1 ∧ x.f2 = y.f2 ∧ (x.f3 = y.f3 ∨ x.f3 = 0 ∨ y.f3 = 0) then some (if y.f3 = 0 then y else x) else none
def mergeV (x y : Node) : Value := match mergeN x y with | some z => .tuple #[vNode z, .int .i64 0] | none => .tuple #[vNode nodeZ, .int .i64 15]
theorem ne_node (x y : Node) : (!(x.f0.f0 == y.f0.f0) || !(x.f0.f1 == y.f0.f1) || (!(x.f1.f0 == y.f1.f0) || !(x.f1.f1 == y.f1.f1) || (!(x.f2 == y.f2) || !(x.f3 == y.f3)))) = decide (x ≠ y) := by
 rw [Bool.eq_iff_iff]
 simp only [Bool.or_eq_true, Bool.not_eq_true', beq_eq_false_iff_ne, decide_eq_true_eq]
 simp only [ne_eq, Node.ext_iff', Dot.ext_iff']
 by_cases a : x.f0.f0 = y.f0.f0 <;> by_cases b : x.f0.f1 = y.f0.f1 <;> by_cases c : x.f1.f0 = y.f1.f0 <;> by_cases d : x.f1.f1 = y.f1.f1 <;> simp [a, b, c, d] <;> omega
abbrev boxZ : Obj := .cells #[.int .i64 0, .int .i64 0, .int .i64 0, .int .i64 0, .int .i64 0, .int .i32 0] 53 (0, 0)
def mergeAInv (W0 : World) (gA gB : Nat) (x y : Node) (z0 z1 z4 z5 z6 z7 z8 z9 z10 z11 z12 z13 z14 z15 z16 z17 z18 z19 z20 z21 z22 z23 z24 z25 z26 z27 z28 z29 z30 z31 z32 z33 z34 z35 z36 z37 z38 z39 z40 z41 z42 : Value) (L : Array Bool) (ac : Act) (V : World) : Prop := ∃ (l0 l1 l2 l3 l4 l5 l6 l7 l8 l9 l10 l11 l12 l13 l14 l15 l16 l17 l18 l19 l20 : Bool), L = #[l0, l1, l2, l3, l4, l5, l6, l7, l8, l9, l10, l11, l12, l13, l14, l15, l16, l17, l18, l19, l20] ∧ ac = { tmps := #[z0, z1, .pointer (some ⟨gA, 0, none⟩), .pointer (some ⟨gB, 0, none⟩), z4, z5, z6, z7, z8, z9, z10, z11, z12, z13, z14, z15, selv l20 (.bool true) (z16), selv l0 (vNode x) (z17), selv l1 (vNode (deadN x)) (z18), selv l2 (vNode y) (z19), selv l3 (vNode (deadN y)) (z20), selv l4 (.bool true) (z21), selv l5 (.bool true) (z22), selv l6 (z23) (z23), selv l7 (z24) (z24), selv l8 (z25) (z25), selv l9 (z26) (z26), selv l10 (z27) (z27), selv l11 (z28) (z28), selv l12 (z29) (z29), selv l13 (z30) (z30), selv l14 (z31) (z31), selv l15 (z32) (z32), selv l16 (z33) (z33), selv l17 (z34) (z34), selv l18 (z35) (z35), selv l19 (.bool true) (z36), z37, z38, z39, z40, z41, z42], defers := [] } ∧ Aside0 (Below W0.heap.size W0 V)
def mergeBInv (W0 : World) (gA gB : Nat) (x y : Node) (z0 z1 z4 z5 z6 z7 z8 z9 z10 z11 z12 z13 z14 z15 z16 z17 z18 z19 z20 z21 z22 z23 z24 z25 z26 z27 z28 z29 z30 z31 z32 z33 z34 z35 z36 z37 z38 z39 z40 z41 z42 : Value) (L : Array Bool) (ac : Act) (V : World) : Prop := ∃ (l0 l1 l2 l3 l4 l5 l6 l7 l8 l9 l10 l11 l12 l13 l14 l15 l16 l17 l18 l19 l20 : Bool), L = #[l0, l1, l2, l3, l4, l5, l6, l7, l8, l9, l10, l11, l12, l13, l14, l15, l16, l17, l18, l19, l20] ∧ ac = { tmps := #[z0, z1, .pointer (some ⟨gA, 0, none⟩), .pointer (some ⟨gB, 0, none⟩), z4, z5, z6, z7, z8, z9, z10, z11, z12, z13, z14, z15, selv l20 (.bool false) (z16), selv l0 (vNode x) (z17), selv l1 (vNode (deadN x)) (z18), selv l2 (vNode y) (z19), selv l3 (vNode (deadN y)) (z20), selv l4 (.bool false) (z21), selv l5 (.bool false) (z22), selv l6 (vNode x) (z23), selv l7 (vNode y) (z24), selv l8 (.bool false) (z25), selv l9 (.bool false) (z26), selv l10 (z27) (z27), selv l11 (z28) (z28), selv l12 (z29) (z29), selv l13 (.bool false) (z30), selv l14 (.bool false) (z31), selv l15 (z32) (z32), selv l16 (z33) (z33), selv l17 (z34) (z34), selv l18 (.bool false) (z35), selv l19 (.bool false) (z36), z37, z38, z39, z40, z41, z42], defers := [] } ∧ Aside0 (Below W0.heap.size W0 V)
def mergeCInv (W0 : World) (gA gB : Nat) (x y : Node) (z0 z1 z4 z5 z6 z7 z8 z9 z10 z11 z12 z13 z14 z15 z16 z17 z18 z19 z20 z21 z22 z23 z24 z25 z26 z27 z28 z29 z30 z31 z32 z33 z34 z35 z36 z37 z38 z39 z40 z41 z42 : Value) (L : Array Bool) (ac : Act) (V : World) : Prop := ∃ (l0 l1 l2 l3 l4 l5 l6 l7 l8 l9 l10 l11 l12 l13 l14 l15 l16 l17 l18 l19 l20 : Bool), L = #[l0, l1, l2, l3, l4, l5, l6, l7, l8, l9, l10, l11, l12, l13, l14, l15, l16, l17, l18, l19, l20] ∧ ac = { tmps := #[z0, z1, .pointer (some ⟨gA, 0, none⟩), .pointer (some ⟨gB, 0, none⟩), z4, z5, z6, z7, z8, z9, z10, z11, z12, z13, z14, z15, selv l20 (.bool false) (z16), selv l0 (vNode x) (z17), selv l1 (vNode (deadN x)) (z18), selv l2 (vNode y) (z19), selv l3 (vNode (deadN y)) (z20), selv l4 (.bool false) (z21), selv l5 (.bool false) (z22), selv l6 (vNode x) (z23), selv l7 (vNode y) (z24), selv l8 (.bool true) (z25), selv l9 (.bool true) (z26), selv l10 (vNode x) (z27), selv l11 (.bool true) (z28), selv l12 (.bool false) (z29), selv l13 (.bool false) (z30), selv l14 (.bool false) (z31), selv l15 (z32) (z32), selv l16 (z33) (z33), selv l17 (z34) (z34), selv l18 (.bool false) (z35), selv l19 (.bool false) (z36), z37, z38, z39, z40, z41, z42], defers := [] } ∧ Aside0 (Below W0.heap.size W0 V)
def mergeDInv (W0 : World) (gA gB : Nat) (x y : Node) (z0 z1 z4 z5 z6 z7 z8 z9 z10 z11 z12 z13 z14 z15 z16 z17 z18 z19 z20 z21 z22 z23 z24 z25 z26 z27 z28 z29 z30 z31 z32 z33 z34 z35 z36 z37 z38 z39 z40 z41 z42 : Value) (L : Array Bool) (ac : Act) (V : World) : Prop := ∃ (l0 l1 l2 l3 l4 l5 l6 l7 l8 l9 l10 l11 l12 l13 l14 l15 l16 l17 l18 l19 l20 : Bool), L = #[l0, l1, l2, l3, l4, l5, l6, l7, l8, l9, l10, l11, l12, l13, l14, l15, l16, l17, l18, l19, l20] ∧ ac = { tmps := #[z0, z1, .pointer (some ⟨gA, 0, none⟩), .pointer (some ⟨gB, 0, none⟩), z4, z5, z6, z7, z8, z9, z10, z11, z12, z13, z14, z15, selv l20 (.bool false) (z16), selv l0 (vNode x) (z17), selv l1 (vNode (deadN x)) (z18), selv l2 (vNode y) (z19), selv l3 (vNode (deadN y)) (z20), selv l4 (.bool false) (z21), selv l5 (.bool false) (z22), selv l6 (vNode x) (z23), selv l7 (vNode y) (z24), selv l8 (.bool true) (z25), selv l9 (.bool true) (z26), selv l10 (vNode x) (z27), selv l11 (.bool false) (z28), selv l12 (.bool true) (z29), selv l13 (.bool true) (z30), selv l14 (.bool true) (z31), selv l15 (vNode y) (z32), selv l16 (.bool true) (z33), selv l17 (.bool false) (z34), selv l18 (.bool false) (z35), selv l19 (.bool false) (z36), z37, z38, z39, z40, z41, z42], defers := [] } ∧ Aside0 (Below W0.heap.size W0 V)
def mergeEInv (W0 : World) (gA gB : Nat) (x y : Node) (z0 z1 z4 z5 z6 z7 z8 z9 z10 z11 z12 z13 z14 z15 z16 z17 z18 z19 z20 z21 z22 z23 z24 z25 z26 z27 z28 z29 z30 z31 z32 z33 z34 z35 z36 z37 z38 z39 z40 z41 z42 : Value) (L : Array Bool) (ac : Act) (V : World) : Prop := ∃ (l0 l1 l2 l3 l4 l5 l6 l7 l8 l9 l10 l11 l12 l13 l14 l15 l16 l17 l18 l19 l20 : Bool), L = #[l0, l1, l2, l3, l4, l5, l6, l7, l8, l9, l10, l11, l12, l13, l14, l15, l16, l17, l18, l19, l20] ∧ ac = { tmps := #[z0, z1, .pointer (some ⟨gA, 0, none⟩), .pointer (some ⟨gB, 0, none⟩), z4, z5, z6, z7, z8, z9, z10, z11, z12, z13, z14, z15, selv l20 (.bool true) (z16), selv l0 (vNode x) (z17), selv l1 (vNode (deadN x)) (z18), selv l2 (vNode y) (z19), selv l3 (vNode (deadN y)) (z20), selv l4 (.bool false) (z21), selv l5 (.bool false) (z22), selv l6 (vNode x) (z23), selv l7 (vNode y) (z24), selv l8 (.bool true) (z25), selv l9 (.bool true) (z26), selv l10 (vNode x) (z27), selv l11 (.bool false) (z28), selv l12 (.bool true) (z29), selv l13 (.bool true) (z30), selv l14 (.bool true) (z31), selv l15 (vNode y) (z32), selv l16 (.bool false) (z33), selv l17 (.bool true) (z34), selv l18 (.bool true) (z35), selv l19 (.bool true) (z36), z37, z38, z39, z40, z41, z42], defers := [] } ∧ Aside0 (Below W0.heap.size W0 V)
attribute [local go_sem high] eqA53
set_option maxHeartbeats 4000000 in
set_option maxRecDepth 100000 in
theorem merge_call (x y : Node) (w : World) (hx : nodeOk x = true) (hy : nodeOk y = true) (hd : x.f0 = y.f0) :
  Calls Tryz.prog 85 #[vNode x, vNode y] w fun e w' => e = .returned (mergeV x y) ∧ Below w.heap.size w w' := by
 have HXV := Aside0.mk (fun W => node_Valid.calls 1 x.f0.f0 x.f0.f1 x.f1.f0 x.f1.f1 x.f2 x.f3 true W (by rw [nodeValid_is, hx]))
 have HYV := Aside0.mk (fun W => node_Valid.calls 1 y.f0.f0 y.f0.f1 y.f1.f0 y.f1.f1 y.f2 y.f3 true W (by rw [nodeValid_is, hy]))
 have HD := Aside0.mk hd
 have HB := Aside0.mk (below_alloc (below_alloc (below_alloc (Below.refl _ w) (boxN x)) (boxN y)) boxZ)
 have HXA := Aside0.mk (blk_keep (blk_new w (boxN x)) ((Gr.alloc (w.alloc (boxN x)) (boxN y)).trans (Gr.alloc _ boxZ)).below)
 have hxb := blk_keep (blk_new (w.alloc (boxN x)) (boxN y)) (Gr.alloc ((w.alloc (boxN x)).alloc (boxN y)) boxZ).below
 have hxz := blk_new ((w.alloc (boxN x)).alloc (boxN y)) boxZ
 rw [show (w.alloc (boxN x)).heap.size = w.heap.size + 1 by simp] at hxb
 rw [show ((w.alloc (boxN x)).alloc (boxN y)).heap.size = w.heap.size + 2 by simp] at hxz
 have HXB := Aside0.mk hxb
 have HXZ := Aside0.mk hxz
 obtain ⟨x0, x1, x2, x3, x4, x5⟩ := box_six HXA.out
 clear hx hy hd hxb hxz
 go_enter Tryz.func85, Tryz.ntmps85
 go_wp2_with fail
 clear x0 x1 x2 x3 x4 x5
 refine (HXV.out _).mono ?_
 rintro e V1 ⟨rfl, hb⟩
 have HXA := Aside0.mk (blk_keep HXA.out hb)
 have HXB := Aside0.mk (blk_keep HXB.out hb)
 have HXZ := Aside0.mk (blk_keep HXZ.out hb)
 have HB := Aside0.mk (below_more HB.out hb)
 clear hb
 obtain ⟨x0, x1, x2, x3, x4, x5⟩ := box_six HXB.out
 go_wp2_with fail
 clear x0 x1 x2 x3 x4 x5
 refine (HYV.out _).mono ?_
 rintro e V2 ⟨rfl, hb⟩
 have HXA := Aside0.mk (blk_keep HXA.out hb)
 have HXB := Aside0.mk (blk_keep HXB.out hb)
 have HXZ := Aside0.mk (blk_keep HXZ.out hb)
 have HB := Aside0.mk (below_more HB.out hb)
 clear hb HXV HYV
 go_wp2_with fail
 by_cases h1 : x.f1 = y.f1 ∧ x.f2 = y.f2
 ·
  have HP := Aside0.mk ((ne_node (deadN x) (deadN y)).trans (show decide (deadN x ≠ deadN y) = false from decide_eq_false fun h => h (Node.ext_iff'.2 ⟨HD.out, h1.1, h1.2, rfl⟩)))
  have H1 := Aside0.mk h1
  clear h1
  by_cases h3 : x.f3 = y.f3
  ·
   have HQ := Aside0.mk ((ne_node x y).trans (show decide (x ≠ y) = false from decide_eq_false fun h => h (Node.ext_iff'.2 ⟨HD.out, H1.out.1, H1.out.2, h3⟩)))
   have HM : Aside0 (mergeN x y = some (if y.f3 = 0 then y else x)) := ⟨if_pos ⟨H1.out.1, H1.out.2, .inl h3⟩⟩
   clear h3
   refine AnyOrder.wp_region (by kernel_rfl) (mergeBInv V2.drew w.heap.size (w.heap.size + 1) x y _ _ _ _ _ _ _ _ _ _ _ _ _ _ _ _ _ _ _ _ _ _ _ _ _ _ _ _ _ _ _ _ _ _ _ _ _ _ _ _ _) ⟨false, false, false, false, false, false, false, false, false, false, false, false, false, false, false, false, false, false, false, false, false, rfl, rfl, ⟨Below.refl _ _⟩⟩ ?step ?last
   case step =>
    rintro L ac V i ⟨l0, l1, l2, l3, l4, l5, l6, l7, l8, l9, l10, l11, l12, l13, l14, l15, l16, l17, l18, l19, l20, rfl, rfl, HF⟩ hi K hK
    have h1 : i = 0 ∨ i = 1 ∨ i = 2 ∨ i = 3 ∨ i = 4 ∨ i = 5 ∨ i = 6 ∨ i = 7 ∨ i = 8 ∨ i = 9 ∨ i = 10 ∨ i = 11 ∨ i = 12 ∨ i = 13 ∨ i = 14 ∨ i = 15 ∨ i = 16 ∨ i = 17 ∨ i = 18 ∨ i = 19 ∨ i = 20 := by
     have h1 := (AnyOrder.mem_ready hi).1
     clear hi hK
     change i < 21 at h1
     omega
    rcases h1 with rfl | rfl | rfl | rfl | rfl | rfl | rfl | rfl | rfl | rfl | rfl | rfl | rfl | rfl | rfl | rfl | rfl | rfl | rfl | rfl | rfl
    ·
     obtain rfl : l0 = false := (AnyOrder.mem_ready hi).2.1
     clear hi
     have hx := blk_keep (blk_drew HXA.out) HF.out
     obtain ⟨x0, x1, x2, x3, x4, x5⟩ := box_six hx
     refine AnyOrder.wpOp_go rfl (by rfl) ?_
     go_wp2_with fail
     exact ⟨true, l1, l2, l3, l4, l5, l6, l7, l8, l9, l10, l11, l12, l13, l14, l15, l16, l17, l18, l19, l20, rfl, rfl, HF⟩
    ·
     obtain rfl : l1 = false := (AnyOrder.mem_ready hi).2.1
     obtain rfl : l0 = true := AnyOrder.dep (q := 0) hi rfl rfl rfl
     clear hi
     simp only [sel_true, selv_true] at hK ⊢
     refine AnyOrder.wpOp_go rfl (by rfl) ?_
     go_wp2_with fail
     refine (node_Kill.calls x.f0.f0 x.f0.f1 x.f1.f0 x.f1.f1 x.f2 x.f3 _ _ _ _ _ _ V rfl).mono ?_
     rintro e V' ⟨rfl, hb⟩
     exact hK _ _ ⟨true, true, l2, l3, l4, l5, l6, l7, l8, l9, l10, l11, l12, l13, l14, l15, l16, l17, l18, l19, l20, rfl, rfl, ⟨below_more HF.out hb⟩⟩
    ·
     obtain rfl : l2 = false := (AnyOrder.mem_ready hi).2.1
     clear hi
     have hx := blk_keep (blk_drew HXB.out) HF.out
     obtain ⟨x0, x1, x2, x3, x4, x5⟩ := box_six hx
     refine AnyOrder.wpOp_go rfl (by rfl) ?_
     go_wp2_with fail
     exact ⟨l0, l1, true, l3, l4, l5, l6, l7, l8, l9, l10, l11, l12, l13, l14, l15, l16, l17, l18, l19, l20, rfl, rfl, HF⟩
    ·
     obtain rfl : l3 = false := (AnyOrder.mem_ready hi).2.1
     obtain rfl : l2 = true := AnyOrder.dep (q := 0) hi rfl rfl rfl
     obtain rfl : l1 = true := AnyOrder.dep (q := 1) hi rfl rfl rfl
     clear hi
     simp only [sel_true, selv_true] at hK ⊢
     refine AnyOrder.wpOp_go rfl (by rfl) ?_
     go_wp2_with fail
     refine (node_Kill.calls y.f0.f0 y.f0.f1 y.f1.f0 y.f1.f1 y.f2 y.f3 _ _ _ _ _ _ V rfl).mono ?_
     rintro e V' ⟨rfl, hb⟩
     exact hK _ _ ⟨l0, true, true, true, l4, l5, l6, l7, l8, l9, l10, l11, l12, l13, l14, l15, l16, l17, l18, l19, l20, rfl, rfl, ⟨below_more HF.out hb⟩⟩
    ·
     obtain rfl : l4 = false := (AnyOrder.mem_ready hi).2.1
     obtain rfl : l1 = true := AnyOrder.dep (q := 0) hi rfl rfl rfl
     obtain rfl : l3 = true := AnyOrder.dep (q := 1) hi rfl rfl rfl
     clear hi
     simp only [sel_true, selv_true] at hK ⊢
     refine AnyOrder.wpOp_go rfl (by rfl) ?_
     go_wp2_with fail
     rw [HP.out]
     exact ⟨l0, true, l2, true, true, l5, l6, l7, l8, l9, l10, l11, l12, l13, l14, l15, l16, l17, l18, l19, l20, rfl, rfl, HF⟩
    ·
     obtain rfl : l5 = false := (AnyOrder.mem_ready hi).2.1
     obtain rfl : l4 = true := AnyOrder.dep (q := 0) hi rfl rfl rfl
     obtain rfl : l3 = true := AnyOrder.dep (q := 1) hi rfl rfl rfl
     clear hi
     simp only [sel_true, selv_true] at hK ⊢
     refine AnyOrder.wpOp_go rfl (by rfl) ?_
     go_wp2_with fail
     exact ⟨l0, l1, l2, true, true, true, l6, l7, l8, l9, l10, l11, l12, l13, l14, l15, l16, l17, l18, l19, l20, rfl, rfl, HF⟩
    ·
     obtain rfl : l6 = false := (AnyOrder.mem_ready hi).2.1
     obtain rfl : l5 = true := AnyOrder.dep (q := 0) hi rfl rfl rfl
     clear hi
     simp only [sel_true, selv_true] at hK ⊢
     have hx := blk_keep (blk_drew HXA.out) HF.out
     obtain ⟨x0, x1, x2, x3, x4, x5⟩ := box_six hx
     refine AnyOrder.wpOp_go rfl (by rfl) ?_
     go_wp2_with fail
     exact ⟨l0, l1, l2, l3, l4, true, true, l7, l8, l9, l10, l11, l12, l13, l14, l15, l16, l17, l18, l19, l20, rfl, rfl, HF⟩
    ·
     obtain rfl : l7 = false := (AnyOrder.mem_ready hi).2.1
     obtain rfl : l5 = true := AnyOrder.dep (q := 0) hi rfl rfl rfl
     clear hi
     simp only [sel_true, selv_true] at hK ⊢
     have hx := blk_keep (blk_drew HXB.out) HF.out
     obtain ⟨x0, x1, x2, x3, x4, x5⟩ := box_six hx
     refine AnyOrder.wpOp_go rfl (by rfl) ?_
     go_wp2_with fail
     exact ⟨l0, l1, l2, l3, l4, true, l6, true, l8, l9, l10, l11, l12, l13, l14, l15, l16, l17, l18, l19, l20, rfl, rfl, HF⟩
    ·
     obtain rfl : l8 = false := (AnyOrder.mem_ready hi).2.1
     obtain rfl : l6 = true := AnyOrder.dep (q := 0) hi rfl rfl rfl
     obtain rfl : l7 = true := AnyOrder.dep (q := 1) hi rfl rfl rfl
     obtain rfl : l5 = true := AnyOrder.dep (q := 2) hi rfl rfl rfl
     clear hi
     simp only [sel_true, selv_true] at hK ⊢
     refine AnyOrder.wpOp_go rfl (by rfl) ?_
     go_wp2_with fail
     rw [HQ.out]
     exact ⟨l0, l1, l2, l3, l4, true, true, true, true, l9, l10, l11, l12, l13, l14, l15, l16, l17, l18, l19, l20, rfl, rfl, HF⟩
    ·
     obtain rfl : l9 = false := (AnyOrder.mem_ready hi).2.1
     obtain rfl : l8 = true := AnyOrder.dep (q := 0) hi rfl rfl rfl
     obtain rfl : l5 = true := AnyOrder.dep (q := 1) hi rfl rfl rfl
     clear hi
     simp only [sel_true, selv_true] at hK ⊢
     refine AnyOrder.wpOp_go rfl (by rfl) ?_
     go_wp2_with fail
     exact ⟨l0, l1, l2, l3, l4, true, l6, l7, true, true, l10, l11, l12, l13, l14, l15, l16, l17, l18, l19, l20, rfl, rfl, HF⟩
    ·
     obtain rfl : l10 = false := (AnyOrder.mem_ready hi).2.1
     obtain rfl : l9 = true := AnyOrder.dep (q := 0) hi rfl rfl rfl
     clear hi
     simp only [sel_true, selv_true] at hK ⊢
     refine AnyOrder.wpOp_out rfl (by rfl) ?_
     exact hK _ _ ⟨l0, l1, l2, l3, l4, l5, l6, l7, l8, true, true, l11, l12, l13, l14, l15, l16, l17, l18, l19, l20, rfl, rfl, HF⟩
    ·
     obtain rfl : l11 = false := (AnyOrder.mem_ready hi).2.1
     obtain rfl : l10 = true := AnyOrder.dep (q := 0) hi rfl rfl rfl
     obtain rfl : l9 = true := AnyOrder.dep (q := 1) hi rfl rfl rfl
     clear hi
     simp only [sel_true, selv_true] at hK ⊢
     refine AnyOrder.wpOp_out rfl (by rfl) ?_
     exact hK _ _ ⟨l0, l1, l2, l3, l4, l5, l6, l7, l8, true, true, true, l12, l13, l14, l15, l16, l17, l18, l19, l20, rfl, rfl, HF⟩
    ·
     obtain rfl : l12 = false := (AnyOrder.mem_ready hi).2.1
     obtain rfl : l11 = true := AnyOrder.dep (q := 0) hi rfl rfl rfl
     obtain rfl : l9 = true := AnyOrder.dep (q := 1) hi rfl rfl rfl
     clear hi
     simp only [sel_true, selv_true] at hK ⊢
     refine AnyOrder.wpOp_out rfl (by rfl) ?_
     exact hK _ _ ⟨l0, l1, l2, l3, l4, l5, l6, l7, l8, true, l10, true, true, l13, l14, l15, l16, l17, l18, l19, l20, rfl, rfl, HF⟩
    ·
     obtain rfl : l13 = false := (AnyOrder.mem_ready hi).2.1
     obtain rfl : l9 = true := AnyOrder.dep (q := 0) hi rfl rfl rfl
     obtain rfl : l12 = true := AnyOrder.dep (q := 1) hi rfl rfl rfl
     obtain rfl : l5 = true := AnyOrder.dep (q := 2) hi rfl rfl rfl
     clear hi
     simp only [sel_true, selv_true] at hK ⊢
     refine AnyOrder.wpOp_go rfl (by rfl) ?_
     go_wp2_with fail
     exact ⟨l0, l1, l2, l3, l4, true, l6, l7, l8, true, l10, l11, true, true, l14, l15, l16, l17, l18, l19, l20, rfl, rfl, HF⟩
    ·
     obtain rfl : l14 = false := (AnyOrder.mem_ready hi).2.1
     obtain rfl : l13 = true := AnyOrder.dep (q := 0) hi rfl rfl rfl
     obtain rfl : l11 = true := AnyOrder.dep (q := 1) hi rfl rfl rfl
     obtain rfl : l5 = true := AnyOrder.dep (q := 2) hi rfl rfl rfl
     clear hi
     simp only [sel_true, selv_true] at hK ⊢
     refine AnyOrder.wpOp_go rfl (by rfl) ?_
     go_wp2_with fail
     exact ⟨l0, l1, l2, l3, l4, true, l6, l7, l8, l9, l10, true, l12, true, true, l15, l16, l17, l18, l19, l20, rfl, rfl, HF⟩
    ·
     obtain rfl : l15 = false := (AnyOrder.mem_ready hi).2.1
     obtain rfl : l14 = true := AnyOrder.dep (q := 0) hi rfl rfl rfl
     clear hi
     simp only [sel_true, selv_true] at hK ⊢
     refine AnyOrder.wpOp_out rfl (by rfl) ?_
     exact hK _ _ ⟨l0, l1, l2, l3, l4, l5, l6, l7, l8, l9, l10, l11, l12, l13, true, true, l16, l17, l18, l19, l20, rfl, rfl, HF⟩
    ·
     obtain rfl : l16 = false := (AnyOrder.mem_ready hi).2.1
     obtain rfl : l15 = true := AnyOrder.dep (q := 0) hi rfl rfl rfl
     obtain rfl : l14 = true := AnyOrder.dep (q := 1) hi rfl rfl rfl
     clear hi
     simp only [sel_true, selv_true] at hK ⊢
     refine AnyOrder.wpOp_out rfl (by rfl) ?_
     exact hK _ _ ⟨l0, l1, l2, l3, l4, l5, l6, l7, l8, l9, l10, l11, l12, l13, true, true, true, l17, l18, l19, l20, rfl, rfl, HF⟩
    ·
     obtain rfl : l17 = false := (AnyOrder.mem_ready hi).2.1
     obtain rfl : l16 = true := AnyOrder.dep (q := 0) hi rfl rfl rfl
     obtain rfl : l14 = true := AnyOrder.dep (q := 1) hi rfl rfl rfl
     clear hi
     simp only [sel_true, selv_true] at hK ⊢
     refine AnyOrder.wpOp_out rfl (by rfl) ?_
     exact hK _ _ ⟨l0, l1, l2, l3, l4, l5, l6, l7, l8, l9, l10, l11, l12, l13, true, l15, true, true, l18, l19, l20, rfl, rfl, HF⟩
    ·
     obtain rfl : l18 = false := (AnyOrder.mem_ready hi).2.1
     obtain rfl : l14 = true := AnyOrder.dep (q := 0) hi rfl rfl rfl
     obtain rfl : l17 = true := AnyOrder.dep (q := 1) hi rfl rfl rfl
     obtain rfl : l5 = true := AnyOrder.dep (q := 2) hi rfl rfl rfl
     clear hi
     simp only [sel_true, selv_true] at hK ⊢
     refine AnyOrder.wpOp_go rfl (by rfl) ?_
     go_wp2_with fail
     exact ⟨l0, l1, l2, l3, l4, true, l6, l7, l8, l9, l10, l11, l12, l13, true, l15, l16, true, true, l19, l20, rfl, rfl, HF⟩
    ·
     obtain rfl : l19 = false := (AnyOrder.mem_ready hi).2.1
     obtain rfl : l5 = true := AnyOrder.dep (q := 0) hi rfl rfl rfl
     obtain rfl : l18 = true := AnyOrder.dep (q := 1) hi rfl rfl rfl
     clear hi
     simp only [sel_true, selv_true] at hK ⊢
     refine AnyOrder.wpOp_go rfl (by rfl) ?_
     go_wp2_with fail
     exact ⟨l0, l1, l2, l3, l4, true, l6, l7, l8, l9, l10, l11, l12, l13, l14, l15, l16, l17, true, true, l20, rfl, rfl, HF⟩
    ·
     obtain rfl : l20 = false := (AnyOrder.mem_ready hi).2.1
     obtain rfl : l19 = true := AnyOrder.dep (q := 0) hi rfl rfl rfl
     obtain rfl : l16 = true := AnyOrder.dep (q := 1) hi rfl rfl rfl
     clear hi
     simp only [sel_true, selv_true] at hK ⊢
     refine AnyOrder.wpOp_go rfl (by rfl) ?_
     go_wp2_with fail
     exact ⟨l0, l1, l2, l3, l4, l5, l6, l7, l8, l9, l10, l11, l12, l13, l14, l15, true, l17, l18, true, true, rfl, rfl, HF⟩
   case last =>
    rintro L ac V ⟨l0, l1, l2, l3, l4, l5, l6, l7, l8, l9, l10, l11, l12, l13, l14, l15, l16, l17, l18, l19, l20, rfl, rfl, HF⟩ hr
    have hall := AnyOrder.all_listed rfl (by kernel_rfl) hr
    clear hr
    obtain rfl : l0 = true := hall 0 (by decide)
    obtain rfl : l1 = true := hall 1 (by decide)
    obtain rfl : l2 = true := hall 2 (by decide)
    obtain rfl : l3 = true := hall 3 (by decide)
    obtain rfl : l4 = true := hall 4 (by decide)
    obtain rfl : l5 = true := hall 5 (by decide)
    obtain rfl : l6 = true := hall 6 (by decide)
    obtain rfl : l7 = true := hall 7 (by decide)
    obtain rfl : l8 = true := hall 8 (by decide)
    obtain rfl : l9 = true := hall 9 (by decide)
    obtain rfl : l10 = true := hall 10 (by decide)
    obtain rfl : l11 = true := hall 11 (by decide)
    obtain rfl : l12 = true := hall 12 (by decide)
    obtain rfl : l13 = true := hall 13 (by decide)
    obtain rfl : l14 = true := hall 14 (by decide)
    obtain rfl : l15 = true := hall 15 (by decide)
    obtain rfl : l16 = true := hall 16 (by decide)
    obtain rfl : l17 = true := hall 17 (by decide)
    obtain rfl : l18 = true := hall 18 (by decide)
    obtain rfl : l19 = true := hall 19 (by decide)
    obtain rfl : l20 = true := hall 20 (by decide)
    clear hall
    simp only [sel_true, selv_true]
    clear HP HQ
    have HB := Aside0.mk (below_more HB.out (below_more (below_drew1 (Below.refl _ V2)) HF.out))
    have HXA := Aside0.mk (blk_keep (blk_drew HXA.out) HF.out)
    have HXB := Aside0.mk (blk_keep (blk_drew HXB.out) HF.out)
    have HXZ := Aside0.mk (blk_keep (blk_drew HXZ.out) HF.out)
    obtain ⟨b, Hb⟩ : ∃ b, Aside0 ((y.f3 == 0) = b) := ⟨_, ⟨rfl⟩⟩
    obtain ⟨x0, x1, x2, x3, x4, x5⟩ := box_six HXB.out
    go_wp2_with fail
    clear x0 x1 x2 x3 x4 x5
    refine (node_Dead.calls y.f0.f0 y.f0.f1 y.f1.f0 y.f1.f1 y.f2 y.f3 b V (by unfold node_Dead.f; rw [Hb.out])).mono ?_
    rintro e V3 ⟨rfl, hb⟩
    have HXA := Aside0.mk (blk_keep HXA.out hb)
    have HXB := Aside0.mk (blk_keep HXB.out hb)
    have HXZ := Aside0.mk (blk_keep HXZ.out hb)
    have HB := Aside0.mk (below_more HB.out hb)
    clear hb HF
    cases b with
    | true =>
     obtain ⟨x0, x1, x2, x3, x4, x5⟩ := box_six HXB.out
     go_wp2_with (refine wpList_boxNode rfl (.tmp 4) (.tmp 41) rfl rfl HXZ.out y rfl rfl ?_; intro V4 hz4 hg4)
     have HB4 := Aside0.mk (grown_on hg4 HB.out (fun k e => by cases e; omega))
     have HZ4 := Aside0.mk hz4
     refine bodyPost_ret (results_box rfl _ _ _ _ _ _ _ _ _ rfl HZ4.out) rfl ?_
     exact ⟨by unfold mergeV; rw [HM.out, if_pos (beq_iff_eq.1 Hb.out)]; rfl, HB4.out⟩
    | false =>
     obtain ⟨x0, x1, x2, x3, x4, x5⟩ := box_six HXA.out
     go_wp2_with (refine wpList_boxNode rfl (.tmp 4) (.tmp 42) rfl rfl HXZ.out x rfl rfl ?_; intro V4 hz4 hg4)
     have HB4 := Aside0.mk (grown_on hg4 HB.out (fun k e => by cases e; omega))
     have HZ4 := Aside0.mk hz4
     refine bodyPost_ret (results_box rfl _ _ _ _ _ _ _ _ _ rfl HZ4.out) rfl ?_
     exact ⟨by unfold mergeV; rw [HM.out, if_neg (beq_eq_false_iff_ne.1 Hb.out)]; rfl, HB4.out⟩
  ·
   have HQ := Aside0.mk ((ne_node x y).trans (show decide (x ≠ y) = true from decide_eq_true fun h => h3 (by rw [h])))
   have H3 := Aside0.mk h3
   clear h3
   by_cases hx0 : x.f3 = 0
   ·
    have HDA : Aside0 ((x.f3 == 0) = true) := ⟨by rw [hx0]; rfl⟩
    have HM : Aside0 (mergeN x y = some (if y.f3 = 0 then y else x)) := ⟨if_pos ⟨H1.out.1, H1.out.2, .inr (.inl hx0)⟩⟩
    clear hx0
    refine AnyOrder.wp_region (by kernel_rfl) (mergeCInv V2.drew w.heap.size (w.heap.size + 1) x y _ _ _ _ _ _ _ _ _ _ _ _ _ _ _ _ _ _ _ _ _ _ _ _ _ _ _ _ _ _ _ _ _ _ _ _ _ _ _ _ _) ⟨false, false, false, false, false, false, false, false, false, false, false, false, false, false, false, false, false, false, false, false, false, rfl, rfl, ⟨Below.refl _ _⟩⟩ ?step ?last
    case step =>
     rintro L ac V i ⟨l0, l1, l2, l3, l4, l5, l6, l7, l8, l9, l10, l11, l12, l13, l14, l15, l16, l17, l18, l19, l20, rfl, rfl, HF⟩ hi K hK
     have h1 : i = 0 ∨ i = 1 ∨ i = 2 ∨ i = 3 ∨ i = 4 ∨ i = 5 ∨ i = 6 ∨ i = 7 ∨ i = 8 ∨ i = 9 ∨ i = 10 ∨ i = 11 ∨ i = 12 ∨ i = 13 ∨ i = 14 ∨ i = 15 ∨ i = 16 ∨ i = 17 ∨ i = 18 ∨ i = 19 ∨ i = 20 := by
      have h1 := (AnyOrder.mem_ready hi).1
      clear hi hK
      change i < 21 at h1
      omega
     rcases h1 with rfl | rfl | rfl | rfl | rfl | rfl | rfl | rfl | rfl | rfl | rfl | rfl | rfl | rfl | rfl | rfl | rfl | rfl | rfl | rfl | rfl
     ·
      obtain rfl : l0 = false := (AnyOrder.mem_ready hi).2.1
      clear hi
      have hx := blk_keep (blk_drew HXA.out) HF.out
      obtain ⟨x0, x1, x2, x3, x4, x5⟩ := box_six hx
      refine AnyOrder.wpOp_go rfl (by rfl) ?_
      go_wp2_with fail
      exact ⟨true, l1, l2, l3, l4, l5, l6, l7, l8, l9, l10, l11, l12, l13, l14, l15, l16, l17, l18, l19, l20, rfl, rfl, HF⟩
     ·
      obtain rfl : l1 = false := (AnyOrder.mem_ready hi).2.1
      obtain rfl : l0 = true := AnyOrder.dep (q := 0) hi rfl rfl rfl
      clear hi
      simp only [sel_true, selv_true] at hK ⊢
      refine AnyOrder.wpOp_go rfl (by rfl) ?_
      go_wp2_with fail
      refine (node_Kill.calls x.f0.f0 x.f0.f1 x.f1.f0 x.f1.f1 x.f2 x.f3 _ _ _ _ _ _ V rfl).mono ?_
      rintro e V' ⟨rfl, hb⟩
      exact hK _ _ ⟨true, true, l2, l3, l4, l5, l6, l7, l8, l9, l10, l11, l12, l13, l14, l15, l16, l17, l18, l19, l20, rfl, rfl, ⟨below_more HF.out hb⟩⟩
     ·
      obtain rfl : l2 = false := (AnyOrder.mem_ready hi).2.1
      clear hi
      have hx := blk_keep (blk_drew HXB.out) HF.out
      obtain ⟨x0, x1, x2, x3, x4, x5⟩ := box_six hx
      refine AnyOrder.wpOp_go rfl (by rfl) ?_
      go_wp2_with fail
      exact ⟨l0, l1, true, l3, l4, l5, l6, l7, l8, l9, l10, l11, l12, l13, l14, l15, l16, l17, l18, l19, l20, rfl, rfl, HF⟩
     ·
      obtain rfl : l3 = false := (AnyOrder.mem_ready hi).2.1
      obtain rfl : l2 = true := AnyOrder.dep (q := 0) hi rfl rfl rfl
      obtain rfl : l1 = true := AnyOrder.dep (q := 1) hi rfl rfl rfl
      clear hi
      simp only [sel_true, selv_true] at hK ⊢
      refine AnyOrder.wpOp_go rfl (by rfl) ?_
      go_wp2_with fail
      refine (node_Kill.calls y.f0.f0 y.f0.f1 y.f1.f0 y.f1.f1 y.f2 y.f3 _ _ _ _ _ _ V rfl).mono ?_
      rintro e V' ⟨rfl, hb⟩
      exact hK _ _ ⟨l0, true, true, true, l4, l5, l6, l7, l8, l9, l10, l11, l12, l13, l14, l15, l16, l17, l18, l19, l20, rfl, rfl, ⟨below_more HF.out hb⟩⟩
     ·
      obtain rfl : l4 = false := (AnyOrder.mem_ready hi).2.1
      obtain rfl : l1 = true := AnyOrder.dep (q := 0) hi rfl rfl rfl
      obtain rfl : l3 = true := AnyOrder.dep (q := 1) hi rfl rfl rfl
      clear hi
      simp only [sel_true, selv_true] at hK ⊢
      refine AnyOrder.wpOp_go rfl (by rfl) ?_
      go_wp2_with fail
      rw [HP.out]
      exact ⟨l0, true, l2, true, true, l5, l6, l7, l8, l9, l10, l11, l12, l13, l14, l15, l16, l17, l18, l19, l20, rfl, rfl, HF⟩
     ·
      obtain rfl : l5 = false := (AnyOrder.mem_ready hi).2.1
      obtain rfl : l4 = true := AnyOrder.dep (q := 0) hi rfl rfl rfl
      obtain rfl : l3 = true := AnyOrder.dep (q := 1) hi rfl rfl rfl
      clear hi
      simp only [sel_true, selv_true] at hK ⊢
      refine AnyOrder.wpOp_go rfl (by rfl) ?_
      go_wp2_with fail
      exact ⟨l0, l1, l2, true, true, true, l6, l7, l8, l9, l10, l11, l12, l13, l14, l15, l16, l17, l18, l19, l20, rfl, rfl, HF⟩
     ·
      obtain rfl : l6 = false := (AnyOrder.mem_ready hi).2.1
      obtain rfl : l5 = true := AnyOrder.dep (q := 0) hi rfl rfl rfl
      clear hi
      simp only [sel_true, selv_true] at hK ⊢
      have hx := blk_keep (blk_drew HXA.out) HF.out
      obtain ⟨x0, x1, x2, x3, x4, x5⟩ := box_six hx
      refine AnyOrder.wpOp_go rfl (by rfl) ?_
      go_wp2_with fail
      exact ⟨l0, l1, l2, l3, l4, true, true, l7, l8, l9, l10, l11, l12, l13, l14, l15, l16, l17, l18, l19, l20, rfl, rfl, HF⟩
     ·
      obtain rfl : l7 = false := (AnyOrder.mem_ready hi).2.1
      obtain rfl : l5 = true := AnyOrder.dep (q := 0) hi rfl rfl rfl
      clear hi
      simp only [sel_true, selv_true] at hK ⊢
      have hx := blk_keep (blk_drew HXB.out) HF.out
      obtain ⟨x0, x1, x2, x3, x4, x5⟩ := box_six hx
      refine AnyOrder.wpOp_go rfl (by rfl) ?_
      go_wp2_with fail
      exact ⟨l0, l1, l2, l3, l4, true, l6, true, l8, l9, l10, l11, l12, l13, l14, l15, l16, l17, l18, l19, l20, rfl, rfl, HF⟩
     ·
      obtain rfl : l8 = false := (AnyOrder.mem_ready hi).2.1
      obtain rfl : l6 = true := AnyOrder.dep (q := 0) hi rfl rfl rfl
      obtain rfl : l7 = true := AnyOrder.dep (q := 1) hi rfl rfl rfl
      obtain rfl : l5 = true := AnyOrder.dep (q := 2) hi rfl rfl rfl
      clear hi
      simp only [sel_true, selv_true] at hK ⊢
      refine AnyOrder.wpOp_go rfl (by rfl) ?_
      go_wp2_with fail
      rw [HQ.out]
      exact ⟨l0, l1, l2, l3, l4, true, true, true, true, l9, l10, l11, l12, l13, l14, l15, l16, l17, l18, l19, l20, rfl, rfl, HF⟩
     ·
      obtain rfl : l9 = false := (AnyOrder.mem_ready hi).2.1
      obtain rfl : l8 = true := AnyOrder.dep (q := 0) hi rfl rfl rfl
      obtain rfl : l5 = true := AnyOrder.dep (q := 1) hi rfl rfl rfl
      clear hi
      simp only [sel_true, selv_true] at hK ⊢
      refine AnyOrder.wpOp_go rfl (by rfl) ?_
      go_wp2_with fail
      exact ⟨l0, l1, l2, l3, l4, true, l6, l7, true, true, l10, l11, l12, l13, l14, l15, l16, l17, l18, l19, l20, rfl, rfl, HF⟩
     ·
      obtain rfl : l10 = false := (AnyOrder.mem_ready hi).2.1
      obtain rfl : l9 = true := AnyOrder.dep (q := 0) hi rfl rfl rfl
      clear hi
      simp only [sel_true, selv_true] at hK ⊢
      have hx := blk_keep (blk_drew HXA.out) HF.out
      obtain ⟨x0, x1, x2, x3, x4, x5⟩ := box_six hx
      refine AnyOrder.wpOp_go rfl (by rfl) ?_
      go_wp2_with fail
      exact ⟨l0, l1, l2, l3, l4, l5, l6, l7, l8, true, true, l11, l12, l13, l14, l15, l16, l17, l18, l19, l20, rfl, rfl, HF⟩
     ·
      obtain rfl : l11 = false := (AnyOrder.mem_ready hi).2.1
      obtain rfl : l10 = true := AnyOrder.dep (q := 0) hi rfl rfl rfl
      obtain rfl : l9 = true := AnyOrder.dep (q := 1) hi rfl rfl rfl
      clear hi
      simp only [sel_true, selv_true] at hK ⊢
      refine AnyOrder.wpOp_go rfl (by rfl) ?_
      go_wp2_with fail
      refine (node_Dead.calls x.f0.f0 x.f0.f1 x.f1.f0 x.f1.f1 x.f2 x.f3 true V (by unfold node_Dead.f; rw [HDA.out])).mono ?_
      rintro e V' ⟨rfl, hb⟩
      exact hK _ _ ⟨l0, l1, l2, l3, l4, l5, l6, l7, l8, true, true, true, l12, l13, l14, l15, l16, l17, l18, l19, l20, rfl, rfl, ⟨below_more HF.out hb⟩⟩
     ·
      obtain rfl : l12 = false := (AnyOrder.mem_ready hi).2.1
      obtain rfl : l11 = true := AnyOrder.dep (q := 0) hi rfl rfl rfl
      obtain rfl : l9 = true := AnyOrder.dep (q := 1) hi rfl rfl rfl
      clear hi
      simp only [sel_true, selv_true] at hK ⊢
      refine AnyOrder.wpOp_go rfl (by rfl) ?_
      go_wp2_with fail
      exact ⟨l0, l1, l2, l3, l4, l5, l6, l7, l8, true, l10, true, true, l13, l14, l15, l16, l17, l18, l19, l20, rfl, rfl, HF⟩
     ·
      obtain rfl : l13 = false := (AnyOrder.mem_ready hi).2.1
      obtain rfl : l9 = true := AnyOrder.dep (q := 0) hi rfl rfl rfl
      obtain rfl : l12 = true := AnyOrder.dep (q := 1) hi rfl rfl rfl
      obtain rfl : l5 = true := AnyOrder.dep (q := 2) hi rfl rfl rfl
      clear hi
      simp only [sel_true, selv_true] at hK ⊢
      refine AnyOrder.wpOp_go rfl (by rfl) ?_
      go_wp2_with fail
      exact ⟨l0, l1, l2, l3, l4, true, l6, l7, l8, true, l10, l11, true, true, l14, l15, l16, l17, l18, l19, l20, rfl, rfl, HF⟩
     ·
      obtain rfl : l14 = false := (AnyOrder.mem_ready hi).2.1
      obtain rfl : l13 = true := AnyOrder.dep (q := 0) hi rfl rfl rfl
      obtain rfl : l11 = true := AnyOrder.dep (q := 1) hi rfl rfl rfl
      obtain rfl : l5 = true := AnyOrder.dep (q := 2) hi rfl rfl rfl
      clear hi
      simp only [sel_true, selv_true] at hK ⊢
      refine AnyOrder.wpOp_go rfl (by rfl) ?_
      go_wp2_with fail
      exact ⟨l0, l1, l2, l3, l4, true, l6, l7, l8, l9, l10, true, l12, true, true, l15, l16, l17, l18, l19, l20, rfl, rfl, HF⟩
     ·
      obtain rfl : l15 = false := (AnyOrder.mem_ready hi).2.1
      obtain rfl : l14 = true := AnyOrder.dep (q := 0) hi rfl rfl rfl
      clear hi
      simp only [sel_true, selv_true] at hK ⊢
      refine AnyOrder.wpOp_out rfl (by rfl) ?_
      exact hK _ _ ⟨l0, l1, l2, l3, l4, l5, l6, l7, l8, l9, l10, l11, l12, l13, true, true, l16, l17, l18, l19, l20, rfl, rfl, HF⟩
     ·
      obtain rfl : l16 = false := (AnyOrder.mem_ready hi).2.1
      obtain rfl : l15 = true := AnyOrder.dep (q := 0) hi rfl rfl rfl
      obtain rfl : l14 = true := AnyOrder.dep (q := 1) hi rfl rfl rfl
      clear hi
      simp only [sel_true, selv_true] at hK ⊢
      refine AnyOrder.wpOp_out rfl (by rfl) ?_
      exact hK _ _ ⟨l0, l1, l2, l3, l4, l5, l6, l7, l8, l9, l10, l11, l12, l13, true, true, true, l17, l18, l19, l20, rfl, rfl, HF⟩
     ·
      obtain rfl : l17 = false := (AnyOrder.mem_ready hi).2.1
      obtain rfl : l16 = true := AnyOrder.dep (q := 0) hi rfl rfl rfl
      obtain rfl : l14 = true := AnyOrder.dep (q := 1) hi rfl rfl rfl
      clear hi
      simp only [sel_true, selv_true] at hK ⊢
      refine AnyOrder.wpOp_out rfl (by rfl) ?_
      exact hK _ _ ⟨l0, l1, l2, l3, l4, l5, l6, l7, l8, l9, l10, l11, l12, l13, true, l15, true, true, l18, l19, l20, rfl, rfl, HF⟩
     ·
      obtain rfl : l18 = false := (AnyOrder.mem_ready hi).2.1
      obtain rfl : l14 = true := AnyOrder.dep (q := 0) hi rfl rfl rfl
      obtain rfl : l17 = true := AnyOrder.dep (q := 1) hi rfl rfl rfl
      obtain rfl : l5 = true := AnyOrder.dep (q := 2) hi rfl rfl rfl
      clear hi
      simp only [sel_true, selv_true] at hK ⊢
      refine AnyOrder.wpOp_go rfl (by rfl) ?_
      go_wp2_with fail
      exact ⟨l0, l1, l2, l3, l4, true, l6, l7, l8, l9, l10, l11, l12, l13, true, l15, l16, true, true, l19, l20, rfl, rfl, HF⟩
     ·
      obtain rfl : l19 = false := (AnyOrder.mem_ready hi).2.1
      obtain rfl : l5 = true := AnyOrder.dep (q := 0) hi rfl rfl rfl
      obtain rfl : l18 = true := AnyOrder.dep (q := 1) hi rfl rfl rfl
      clear hi
      simp only [sel_true, selv_true] at hK ⊢
      refine AnyOrder.wpOp_go rfl (by rfl) ?_
      go_wp2_with fail
      exact ⟨l0, l1, l2, l3, l4, true, l6, l7, l8, l9, l10, l11, l12, l13, l14, l15, l16, l17, true, true, l20, rfl, rfl, HF⟩
     ·
      obtain rfl : l20 = false := (AnyOrder.mem_ready hi).2.1
      obtain rfl : l19 = true := AnyOrder.dep (q := 0) hi rfl rfl rfl
      obtain rfl : l16 = true := AnyOrder.dep (q := 1) hi rfl rfl rfl
      clear hi
      simp only [sel_true, selv_true] at hK ⊢
      refine AnyOrder.wpOp_go rfl (by rfl) ?_
      go_wp2_with fail
      exact ⟨l0, l1, l2, l3, l4, l5, l6, l7, l8, l9, l10, l11, l12, l13, l14, l15, true, l17, l18, true, true, rfl, rfl, HF⟩
    case last =>
     rintro L ac V ⟨l0, l1, l2, l3, l4, l5, l6, l7, l8, l9, l10, l11, l12, l13, l14, l15, l16, l17, l18, l19, l20, rfl, rfl, HF⟩ hr
     have hall := AnyOrder.all_listed rfl (by kernel_rfl) hr
     clear hr
     obtain rfl : l0 = true := hall 0 (by decide)
     obtain rfl : l1 = true := hall 1 (by decide)
     obtain rfl : l2 = true := hall 2 (by decide)
     obtain rfl : l3 = true := hall 3 (by decide)
     obtain rfl : l4 = true := hall 4 (by decide)
     obtain rfl : l5 = true := hall 5 (by decide)
     obtain rfl : l6 = true := hall 6 (by decide)
     obtain rfl : l7 = true := hall 7 (by decide)
     obtain rfl : l8 = true := hall 8 (by decide)
     obtain rfl : l9 = true := hall 9 (by decide)
     obtain rfl : l10 = true := hall 10 (by decide)
     obtain rfl : l11 = true := hall 11 (by decide)
     obtain rfl : l12 = true := hall 12 (by decide)
     obtain rfl : l13 = true := hall 13 (by decide)
     obtain rfl : l14 = true := hall 14 (by decide)
     obtain rfl : l15 = true := hall 15 (by decide)
     obtain rfl : l16 = true := hall 16 (by decide)
     obtain rfl : l17 = true := hall 17 (by decide)
     obtain rfl : l18 = true := hall 18 (by decide)
     obtain rfl : l19 = true := hall 19 (by decide)
     obtain rfl : l20 = true := hall 20 (by decide)
     clear hall
     simp only [sel_true, selv_true]
     clear HP HQ
     have HB := Aside0.mk (below_more HB.out (below_more (below_drew1 (Below.refl _ V2)) HF.out))
     have HXA := Aside0.mk (blk_keep (blk_drew HXA.out) HF.out)
     have HXB := Aside0.mk (blk_keep (blk_drew HXB.out) HF.out)
     have HXZ := Aside0.mk (blk_keep (blk_drew HXZ.out) HF.out)
     obtain ⟨b, Hb⟩ : ∃ b, Aside0 ((y.f3 == 0) = b) := ⟨_, ⟨rfl⟩⟩
     obtain ⟨x0, x1, x2, x3, x4, x5⟩ := box_six HXB.out
     go_wp2_with fail
     clear x0 x1 x2 x3 x4 x5
     refine (node_Dead.calls y.f0.f0 y.f0.f1 y.f1.f0 y.f1.f1 y.f2 y.f3 b V (by unfold node_Dead.f; rw [Hb.out])).mono ?_
     rintro e V3 ⟨rfl, hb⟩
     have HXA := Aside0.mk (blk_keep HXA.out hb)
     have HXB := Aside0.mk (blk_keep HXB.out hb)
     have HXZ := Aside0.mk (blk_keep HXZ.out hb)
     have HB := Aside0.mk (below_more HB.out hb)
     clear hb HF
     cases b with
     | true =>
      obtain ⟨x0, x1, x2, x3, x4, x5⟩ := box_six HXB.out
      go_wp2_with (refine wpList_boxNode rfl (.tmp 4) (.tmp 41) rfl rfl HXZ.out y rfl rfl ?_; intro V4 hz4 hg4)
      have HB4 := Aside0.mk (grown_on hg4 HB.out (fun k e => by cases e; omega))
      have HZ4 := Aside0.mk hz4
      refine bodyPost_ret (results_box rfl _ _ _ _ _ _ _ _ _ rfl HZ4.out) rfl ?_
      exact ⟨by unfold mergeV; rw [HM.out, if_pos (beq_iff_eq.1 Hb.out)]; rfl, HB4.out⟩
     | false =>
      obtain ⟨x0, x1, x2, x3, x4, x5⟩ := box_six HXA.out
      go_wp2_with (refine wpList_boxNode rfl (.tmp 4) (.tmp 42) rfl rfl HXZ.out x rfl rfl ?_; intro V4 hz4 hg4)
      have HB4 := Aside0.mk (grown_on hg4 HB.out (fun k e => by cases e; omega))
      have HZ4 := Aside0.mk hz4
      refine bodyPost_ret (results_box rfl _ _ _ _ _ _ _ _ _ rfl HZ4.out) rfl ?_
      exact ⟨by unfold mergeV; rw [HM.out, if_neg (beq_eq_false_iff_ne.1 Hb.out)]; rfl, HB4.out⟩
   ·
    have HDA : Aside0 ((x.f3 == 0) = false) := ⟨beq_eq_false_iff_ne.2 hx0⟩
    by_cases hy0 : y.f3 = 0
    ·
     have HDB : Aside0 ((y.f3 == 0) = true) := ⟨by rw [hy0]; rfl⟩
     have HM : Aside0 (mergeN x y = some (if y.f3 = 0 then y else x)) := ⟨if_pos ⟨H1.out.1, H1.out.2, .inr (.inr hy0)⟩⟩
     clear hx0 hy0
     refine AnyOrder.wp_region (by kernel_rfl) (mergeDInv V2.drew w.heap.size (w.heap.size + 1) x y _ _ _ _ _ _ _ _ _ _ _ _ _ _ _ _ _ _ _ _ _ _ _ _ _ _ _ _ _ _ _ _ _ _ _ _ _ _ _ _ _) ⟨false, false, false, false, false, false, false, false, false, false, false, false, false, false, false, false, false, false, false, false, false, rfl, rfl, ⟨Below.refl _ _⟩⟩ ?step ?last
     case step =>
      rintro L ac V i ⟨l0, l1, l2, l3, l4, l5, l6, l7, l8, l9, l10, l11, l12, l13, l14, l15, l16, l17, l18, l19, l20, rfl, rfl, HF⟩ hi K hK
      have h1 : i = 0 ∨ i = 1 ∨ i = 2 ∨ i = 3 ∨ i = 4 ∨ i = 5 ∨ i = 6 ∨ i = 7 ∨ i = 8 ∨ i = 9 ∨ i = 10 ∨ i = 11 ∨ i = 12 ∨ i = 13 ∨ i = 14 ∨ i = 15 ∨ i = 16 ∨ i = 17 ∨ i = 18 ∨ i = 19 ∨ i = 20 := by
       have h1 := (AnyOrder.mem_ready hi).1
       clear hi hK
       change i < 21 at h1
       omega
      rcases h1 with rfl | rfl | rfl | rfl | rfl | rfl | rfl | rfl | rfl | rfl | rfl | rfl | rfl | rfl | rfl | rfl | rfl | rfl | rfl | rfl | rfl
      ·
       obtain rfl : l0 = false := (AnyOrder.mem_ready hi).2.1
       clear hi
       have hx := blk_keep (blk_drew HXA.out) HF.out
       obtain ⟨x0, x1, x2, x3, x4, x5⟩ := box_six hx
       refine AnyOrder.wpOp_go rfl (by rfl) ?_
       go_wp2_with fail
       exact ⟨true, l1, l2, l3, l4, l5, l6, l7, l8, l9, l10, l11, l12, l13, l14, l15, l16, l17, l18, l19, l20, rfl, rfl, HF⟩
      ·
       obtain rfl : l1 = false := (AnyOrder.mem_ready hi).2.1
       obtain rfl : l0 = true := AnyOrder.dep (q := 0) hi rfl rfl rfl
       clear hi
       simp only [sel_true, selv_true] at hK ⊢
       refine AnyOrder.wpOp_go rfl (by rfl) ?_
       go_wp2_with fail
       refine (node_Kill.calls x.f0.f0 x.f0.f1 x.f1.f0 x.f1.f1 x.f2 x.f3 _ _ _ _ _ _ V rfl).mono ?_
       rintro e V' ⟨rfl, hb⟩
       exact hK _ _ ⟨true, true, l2, l3, l4, l5, l6, l7, l8, l9, l10, l11, l12, l13, l14, l15, l16, l17, l18, l19, l20, rfl, rfl, ⟨below_more HF.out hb⟩⟩
      ·
       obtain rfl : l2 = false := (AnyOrder.mem_ready hi).2.1
       clear hi
       have hx := blk_keep (blk_drew HXB.out) HF.out
       obtain ⟨x0, x1, x2, x3, x4, x5⟩ := box_six hx
       refine AnyOrder.wpOp_go rfl (by rfl) ?_
       go_wp2_with fail
       exact ⟨l0, l1, true, l3, l4, l5, l6, l7, l8, l9, l10, l11, l12, l13, l14, l15, l16, l17, l18, l19, l20, rfl, rfl, HF⟩
      ·
       obtain rfl : l3 = false := (AnyOrder.mem_ready hi).2.1
       obtain rfl : l2 = true := AnyOrder.dep (q := 0) hi rfl rfl rfl
       obtain rfl : l1 = true := AnyOrder.dep (q := 1) hi rfl rfl rfl
       clear hi
       simp only [sel_true, selv_true] at hK ⊢
       refine AnyOrder.wpOp_go rfl (by rfl) ?_
       go_wp2_with fail
       refine (node_Kill.calls y.f0.f0 y.f0.f1 y.f1.f0 y.f1.f1 y.f2 y.f3 _ _ _ _ _ _ V rfl).mono ?_
       rintro e V' ⟨rfl, hb⟩
       exact hK _ _ ⟨l0, true, true, true, l4, l5, l6, l7, l8, l9, l10, l11, l12, l13, l14, l15, l16, l17, l18, l19, l20, rfl, rfl, ⟨below_more HF.out hb⟩⟩
      ·
       obtain rfl : l4 = false := (AnyOrder.mem_ready hi).2.1
       obtain rfl : l1 = true := AnyOrder.dep (q := 0) hi rfl rfl rfl
       obtain rfl : l3 = true := AnyOrder.dep (q := 1) hi rfl rfl rfl
       clear hi
       simp only [sel_true, selv_true] at hK ⊢
       refine AnyOrder.wpOp_go rfl (by rfl) ?_
       go_wp2_with fail
       rw [HP.out]
       exact ⟨l0, true, l2, true, true, l5, l6, l7, l8, l9, l10, l11, l12, l13, l14, l15, l16, l17, l18, l19, l20, rfl, rfl, HF⟩
      ·
       obtain rfl : l5 = false := (AnyOrder.mem_ready hi).2.1
       obtain rfl : l4 = true := AnyOrder.dep (q := 0) hi rfl rfl rfl
       obtain rfl : l3 = true := AnyOrder.dep (q := 1) hi rfl rfl rfl
       clear hi
       simp only [sel_true, selv_true] at hK ⊢
       refine AnyOrder.wpOp_go rfl (by rfl) ?_
       go_wp2_with fail
       exact ⟨l0, l1, l2, true, true, true, l6, l7, l8, l9, l10, l11, l12, l13, l14, l15, l16, l17, l18, l19, l20, rfl, rfl, HF⟩
      ·
       obtain rfl : l6 = false := (AnyOrder.mem_ready hi).2.1
       obtain rfl : l5 = true := AnyOrder.dep (q := 0) hi rfl rfl rfl
       clear hi
       simp only [sel_true, selv_true] at hK ⊢
       have hx := blk_keep (blk_drew HXA.out) HF.out
       obtain ⟨x0, x1, x2, x3, x4, x5⟩ := box_six hx
       refine AnyOrder.wpOp_go rfl (by rfl) ?_
       go_wp2_with fail
       exact ⟨l0, l1, l2, l3, l4, true, true, l7, l8, l9, l10, l11, l12, l13, l14, l15, l16, l17, l18, l19, l20, rfl, rfl, HF⟩
      ·
       obtain rfl : l7 = false := (AnyOrder.mem_ready hi).2.1
       obtain rfl : l5 = true := AnyOrder.dep (q := 0) hi rfl rfl rfl
       clear hi
       simp only [sel_true, selv_true] at hK ⊢
       have hx := blk_keep (blk_drew HXB.out) HF.out
       obtain ⟨x0, x1, x2, x3, x4, x5⟩ := box_six hx
       refine AnyOrder.wpOp_go rfl (by rfl) ?_
       go_wp2_with fail
       exact ⟨l0, l1, l2, l3, l4, true, l6, true, l8, l9, l10, l11, l12, l13, l14, l15, l16, l17, l18, l19, l20, rfl, rfl, HF⟩
      ·
       obtain rfl : l8 = false := (AnyOrder.mem_ready hi).2.1
       obtain rfl : l6 = true := AnyOrder.dep (q := 0) hi rfl rfl rfl
       obtain rfl : l7 = true := AnyOrder.dep (q := 1) hi rfl rfl rfl
       obtain rfl : l5 = true := AnyOrder.dep (q := 2) hi rfl rfl rfl
       clear hi
       simp only [sel_true, selv_true] at hK ⊢
       refine AnyOrder.wpOp_go rfl (by rfl) ?_
       go_wp2_with fail
       rw [HQ.out]
       exact ⟨l0, l1, l2, l3, l4, true, true, true, true, l9, l10, l11, l12, l13, l14, l15, l16, l17, l18, l19, l20, rfl, rfl, HF⟩
      ·
       obtain rfl : l9 = false := (AnyOrder.mem_ready hi).2.1
       obtain rfl : l8 = true := AnyOrder.dep (q := 0) hi rfl rfl rfl
       obtain rfl : l5 = true := AnyOrder.dep (q := 1) hi rfl rfl rfl
       clear hi
       simp only [sel_true, selv_true] at hK ⊢
       refine AnyOrder.wpOp_go rfl (by rfl) ?_
       go_wp2_with fail
       exact ⟨l0, l1, l2, l3, l4, true, l6, l7, true, true, l10, l11, l12, l13, l14, l15, l16, l17, l18, l19, l20, rfl, rfl, HF⟩
      ·
       obtain rfl : l10 = false := (AnyOrder.mem_ready hi).2.1
       obtain rfl : l9 = true := AnyOrder.dep (q := 0) hi rfl rfl rfl
       clear hi
       simp only [sel_true, selv_true] at hK ⊢
       have hx := blk_keep (blk_drew HXA.out) HF.out
       obtain ⟨x0, x1, x2, x3, x4, x5⟩ := box_six hx
       refine AnyOrder.wpOp_go rfl (by rfl) ?_
       go_wp2_with fail
       exact ⟨l0, l1, l2, l3, l4, l5, l6, l7, l8, true, true, l11, l12, l13, l14, l15, l16, l17, l18, l19, l20, rfl, rfl, HF⟩
      ·
       obtain rfl : l11 = false := (AnyOrder.mem_ready hi).2.1
       obtain rfl : l10 = true := AnyOrder.dep (q := 0) hi rfl rfl rfl
       obtain rfl : l9 = true := AnyOrder.dep (q := 1) hi rfl rfl rfl
       clear hi
       simp only [sel_true, selv_true] at hK ⊢
       refine AnyOrder.wpOp_go rfl (by rfl) ?_
       go_wp2_with fail
       refine (node_Dead.calls x.f0.f0 x.f0.f1 x.f1.f0 x.f1.f1 x.f2 x.f3 false V (by unfold node_Dead.f; rw [HDA.out])).mono ?_
       rintro e V' ⟨rfl, hb⟩
       exact hK _ _ ⟨l0, l1, l2, l3, l4, l5, l6, l7, l8, true, true, true, l12, l13, l14, l15, l16, l17, l18, l19, l20, rfl, rfl, ⟨below_more HF.out hb⟩⟩
      ·
       obtain rfl : l12 = false := (AnyOrder.mem_ready hi).2.1
       obtain rfl : l11 = true := AnyOrder.dep (q := 0) hi rfl rfl rfl
       obtain rfl : l9 = true := AnyOrder.dep (q := 1) hi rfl rfl rfl
       clear hi
       simp only [sel_true, selv_true] at hK ⊢
       refine AnyOrder.wpOp_go rfl (by rfl) ?_
       go_wp2_with fail
       exact ⟨l0, l1, l2, l3, l4, l5, l6, l7, l8, true, l10, true, true, l13, l14, l15, l16, l17, l18, l19, l20, rfl, rfl, HF⟩
      ·
       obtain rfl : l13 = false := (AnyOrder.mem_ready hi).2.1
       obtain rfl : l9 = true := AnyOrder.dep (q := 0) hi rfl rfl rfl
       obtain rfl : l12 = true := AnyOrder.dep (q := 1) hi rfl rfl rfl
       obtain rfl : l5 = true := AnyOrder.dep (q := 2) hi rfl rfl rfl
       clear hi
       simp only [sel_true, selv_true] at hK ⊢
       refine AnyOrder.wpOp_go rfl (by rfl) ?_
       go_wp2_with fail
       exact ⟨l0, l1, l2, l3, l4, true, l6, l7, l8, true, l10, l11, true, true, l14, l15, l16, l17, l18, l19, l20, rfl, rfl, HF⟩
      ·
       obtain rfl : l14 = false := (AnyOrder.mem_ready hi).2.1
       obtain rfl : l13 = true := AnyOrder.dep (q := 0) hi rfl rfl rfl
       obtain rfl : l11 = true := AnyOrder.dep (q := 1) hi rfl rfl rfl
       obtain rfl : l5 = true := AnyOrder.dep (q := 2) hi rfl rfl rfl
       clear hi
       simp only [sel_true, selv_true] at hK ⊢
       refine AnyOrder.wpOp_go rfl (by rfl) ?_
       go_wp2_with fail
       exact ⟨l0, l1, l2, l3, l4, true, l6, l7, l8, l9, l10, true, l12, true, true, l15, l16, l17, l18, l19, l20, rfl, rfl, HF⟩
      ·
       obtain rfl : l15 = false := (AnyOrder.mem_ready hi).2.1
       obtain rfl : l14 = true := AnyOrder.dep (q := 0) hi rfl rfl rfl
       clear hi
       simp only [sel_true, selv_true] at hK ⊢
       have hx := blk_keep (blk_drew HXB.out) HF.out
       obtain ⟨x0, x1, x2, x3, x4, x5⟩ := box_six hx
       refine AnyOrder.wpOp_go rfl (by rfl) ?_
       go_wp2_with fail
       exact ⟨l0, l1, l2, l3, l4, l5, l6, l7, l8, l9, l10, l11, l12, l13, true, true, l16, l17, l18, l19, l20, rfl, rfl, HF⟩
      ·
       obtain rfl : l16 = false := (AnyOrder.mem_ready hi).2.1
       obtain rfl : l15 = true := AnyOrder.dep (q := 0) hi rfl rfl rfl
       obtain rfl : l14 = true := AnyOrder.dep (q := 1) hi rfl rfl rfl
       clear hi
       simp only [sel_true, selv_true] at hK ⊢
       refine AnyOrder.wpOp_go rfl (by rfl) ?_
       go_wp2_with fail
       refine (node_Dead.calls y.f0.f0 y.f0.f1 y.f1.f0 y.f1.f1 y.f2 y.f3 true V (by unfold node_Dead.f; rw [HDB.out])).mono ?_
       rintro e V' ⟨rfl, hb⟩
       exact hK _ _ ⟨l0, l1, l2, l3, l4, l5, l6, l7, l8, l9, l10, l11, l12, l13, true, true, true, l17, l18, l19, l20, rfl, rfl, ⟨below_more HF.out hb⟩⟩
      ·
       obtain rfl : l17 = false := (AnyOrder.mem_ready hi).2.1
       obtain rfl : l16 = true := AnyOrder.dep (q := 0) hi rfl rfl rfl
       obtain rfl : l14 = true := AnyOrder.dep (q := 1) hi rfl rfl rfl
       clear hi
       simp only [sel_true, selv_true] at hK ⊢
       refine AnyOrder.wpOp_go rfl (by rfl) ?_
       go_wp2_with fail
       exact ⟨l0, l1, l2, l3, l4, l5, l6, l7, l8, l9, l10, l11, l12, l13, true, l15, true, true, l18, l19, l20, rfl, rfl, HF⟩
      ·
       obtain rfl : l18 = false := (AnyOrder.mem_ready hi).2.1
       obtain rfl : l14 = true := AnyOrder.dep (q := 0) hi rfl rfl rfl
       obtain rfl : l17 = true := AnyOrder.dep (q := 1) hi rfl rfl rfl
       obtain rfl : l5 = true := AnyOrder.dep (q := 2) hi rfl rfl rfl
       clear hi
       simp only [sel_true, selv_true] at hK ⊢
       refine AnyOrder.wpOp_go rfl (by rfl) ?_
       go_wp2_with fail
       exact ⟨l0, l1, l2, l3, l4, true, l6, l7, l8, l9, l10, l11, l12, l13, true, l15, l16, true, true, l19, l20, rfl, rfl, HF⟩
      ·
       obtain rfl : l19 = false := (AnyOrder.mem_ready hi).2.1
       obtain rfl : l5 = true := AnyOrder.dep (q := 0) hi rfl rfl rfl
       obtain rfl : l18 = true := AnyOrder.dep (q := 1) hi rfl rfl rfl
       clear hi
       simp only [sel_true, selv_true] at hK ⊢
       refine AnyOrder.wpOp_go rfl (by rfl) ?_
       go_wp2_with fail
       exact ⟨l0, l1, l2, l3, l4, true, l6, l7, l8, l9, l10, l11, l12, l13, l14, l15, l16, l17, true, true, l20, rfl, rfl, HF⟩
      ·
       obtain rfl : l20 = false := (AnyOrder.mem_ready hi).2.1
       obtain rfl : l19 = true := AnyOrder.dep (q := 0) hi rfl rfl rfl
       obtain rfl : l16 = true := AnyOrder.dep (q := 1) hi rfl rfl rfl
       clear hi
       simp only [sel_true, selv_true] at hK ⊢
       refine AnyOrder.wpOp_go rfl (by rfl) ?_
       go_wp2_with fail
       exact ⟨l0, l1, l2, l3, l4, l5, l6, l7, l8, l9, l10, l11, l12, l13, l14, l15, true, l17, l18, true, true, rfl, rfl, HF⟩
     case last =>
      rintro L ac V ⟨l0, l1, l2, l3, l4, l5, l6, l7, l8, l9, l10, l11, l12, l13, l14, l15, l16, l17, l18, l19, l20, rfl, rfl, HF⟩ hr
      have hall := AnyOrder.all_listed rfl (by kernel_rfl) hr
      clear hr
      obtain rfl : l0 = true := hall 0 (by decide)
      obtain rfl : l1 = true := hall 1 (by decide)
      obtain rfl : l2 = true := hall 2 (by decide)
      obtain rfl : l3 = true := hall 3 (by decide)
      obtain rfl : l4 = true := hall 4 (by decide)
      obtain rfl : l5 = true := hall 5 (by decide)
      obtain rfl : l6 = true := hall 6 (by decide)
      obtain rfl : l7 = true := hall 7 (by decide)
      obtain rfl : l8 = true := hall 8 (by decide)
      obtain rfl : l9 = true := hall 9 (by decide)
      obtain rfl : l10 = true := hall 10 (by decide)
      obtain rfl : l11 = true := hall 11 (by decide)
      obtain rfl : l12 = true := hall 12 (by decide)
      obtain rfl : l13 = true := hall 13 (by decide)
      obtain rfl : l14 = true := hall 14 (by decide)
      obtain rfl : l15 = true := hall 15 (by decide)
      obtain rfl : l16 = true := hall 16 (by decide)
      obtain rfl : l17 = true := hall 17 (by decide)
      obtain rfl : l18 = true := hall 18 (by decide)
      obtain rfl : l19 = true := hall 19 (by decide)
      obtain rfl : l20 = true := hall 20 (by decide)
      clear hall
      simp only [sel_true, selv_true]
      clear HP HQ
      have HB := Aside0.mk (below_more HB.out (below_more (below_drew1 (Below.refl _ V2)) HF.out))
      have HXA := Aside0.mk (blk_keep (blk_drew HXA.out) HF.out)
      have HXB := Aside0.mk (blk_keep (blk_drew HXB.out) HF.out)
      have HXZ := Aside0.mk (blk_keep (blk_drew HXZ.out) HF.out)
      obtain ⟨b, Hb⟩ : ∃ b, Aside0 ((y.f3 == 0) = b) := ⟨_, ⟨rfl⟩⟩
      obtain ⟨x0, x1, x2, x3, x4, x5⟩ := box_six HXB.out
      go_wp2_with fail
      clear x0 x1 x2 x3 x4 x5
      refine (node_Dead.calls y.f0.f0 y.f0.f1 y.f1.f0 y.f1.f1 y.f2 y.f3 b V (by unfold node_Dead.f; rw [Hb.out])).mono ?_
      rintro e V3 ⟨rfl, hb⟩
      have HXA := Aside0.mk (blk_keep HXA.out hb)
      have HXB := Aside0.mk (blk_keep HXB.out hb)
      have HXZ := Aside0.mk (blk_keep HXZ.out hb)
      have HB := Aside0.mk (below_more HB.out hb)
      clear hb HF
      cases b with
      | true =>
       obtain ⟨x0, x1, x2, x3, x4, x5⟩ := box_six HXB.out
       go_wp2_with (refine wpList_boxNode rfl (.tmp 4) (.tmp 41) rfl rfl HXZ.out y rfl rfl ?_; intro V4 hz4 hg4)
       have HB4 := Aside0.mk (grown_on hg4 HB.out (fun k e => by cases e; omega))
       have HZ4 := Aside0.mk hz4
       refine bodyPost_ret (results_box rfl _ _ _ _ _ _ _ _ _ rfl HZ4.out) rfl ?_
       exact ⟨by unfold mergeV; rw [HM.out, if_pos (beq_iff_eq.1 Hb.out)]; rfl, HB4.out⟩
      | false =>
       obtain ⟨x0, x1, x2, x3, x4, x5⟩ := box_six HXA.out
       go_wp2_with (refine wpList_boxNode rfl (.tmp 4) (.tmp 42) rfl rfl HXZ.out x rfl rfl ?_; intro V4 hz4 hg4)
       have HB4 := Aside0.mk (grown_on hg4 HB.out (fun k e => by cases e; omega))
       have HZ4 := Aside0.mk hz4
       refine bodyPost_ret (results_box rfl _ _ _ _ _ _ _ _ _ rfl HZ4.out) rfl ?_
       exact ⟨by unfold mergeV; rw [HM.out, if_neg (beq_eq_false_iff_ne.1 Hb.out)]; rfl, HB4.out⟩
    ·
     have HDB : Aside0 ((y.f3 == 0) = false) := ⟨beq_eq_false_iff_ne.2 hy0⟩
     have HM : Aside0 (mergeN x y = none) := ⟨if_neg fun h => by rcases h.2.2 with h | h | h; exact H3.out h; exact hx0 h; exact hy0 h⟩
     clear hx0 hy0
     refine AnyOrder.wp_region (by kernel_rfl) (mergeEInv V2.drew w.heap.size (w.heap.size + 1) x y _ _ _ _ _ _ _ _ _ _ _ _ _ _ _ _ _ _ _ _ _ _ _ _ _ _ _ _ _ _ _ _ _ _ _ _ _ _ _ _ _) ⟨false, false, false, false, false, false, false, false, false, false, false, false, false, false, false, false, false, false, false, false, false, rfl, rfl, ⟨Below.refl _ _⟩⟩ ?step ?last
     case step =>
      rintro L ac V i ⟨l0, l1, l2, l3, l4, l5, l6, l7, l8, l9, l10, l11, l12, l13, l14, l15, l16, l17, l18, l19, l20, rfl, rfl, HF⟩ hi K hK
      have h1 : i = 0 ∨ i = 1 ∨ i = 2 ∨ i = 3 ∨ i = 4 ∨ i = 5 ∨ i = 6 ∨ i = 7 ∨ i = 8 ∨ i = 9 ∨ i = 10 ∨ i = 11 ∨ i = 12 ∨ i = 13 ∨ i = 14 ∨ i = 15 ∨ i = 16 ∨ i = 17 ∨ i = 18 ∨ i = 19 ∨ i = 20 := by
       have h1 := (AnyOrder.mem_ready hi).1
       clear hi hK
       change i < 21 at h1
       omega
      rcases h1 with rfl | rfl | rfl | rfl | rfl | rfl | rfl | rfl | rfl | rfl | rfl | rfl | rfl | rfl | rfl | rfl | rfl | rfl | rfl | rfl | rfl
      ·
       obtain rfl : l0 = false := (AnyOrder.mem_ready hi).2.1
       clear hi
       have hx := blk_keep (blk_drew HXA.out) HF.out
       obtain ⟨x0, x1, x2, x3, x4, x5⟩ := box_six hx
       refine AnyOrder.wpOp_go rfl (by rfl) ?_
       go_wp2_with fail
       exact ⟨true, l1, l2, l3, l4, l5, l6, l7, l8, l9, l10, l11, l12, l13, l14, l15, l16, l17, l18, l19, l20, rfl, rfl, HF⟩
      ·
       obtain rfl : l1 = false := (AnyOrder.mem_ready hi).2.1
       obtain rfl : l0 = true := AnyOrder.dep (q := 0) hi rfl rfl rfl
       clear hi
       simp only [sel_true, selv_true] at hK ⊢
       refine AnyOrder.wpOp_go rfl (by rfl) ?_
       go_wp2_with fail
       refine (node_Kill.calls x.f0.f0 x.f0.f1 x.f1.f0 x.f1.f1 x.f2 x.f3 _ _ _ _ _ _ V rfl).mono ?_
       rintro e V' ⟨rfl, hb⟩
       exact hK _ _ ⟨true, true, l2, l3, l4, l5, l6, l7, l8, l9, l10, l11, l12, l13, l14, l15, l16, l17, l18, l19, l20, rfl, rfl, ⟨below_more HF.out hb⟩⟩
      ·
       obtain rfl : l2 = false := (AnyOrder.mem_ready hi).2.1
       clear hi
       have hx := blk_keep (blk_drew HXB.out) HF.out
       obtain ⟨x0, x1, x2, x3, x4, x5⟩ := box_six hx
       refine AnyOrder.wpOp_go rfl (by rfl) ?_
       go_wp2_with fail
       exact ⟨l0, l1, true, l3, l4, l5, l6, l7, l8, l9, l10, l11, l12, l13, l14, l15, l16, l17, l18, l19, l20, rfl, rfl, HF⟩
      ·
       obtain rfl : l3 = false := (AnyOrder.mem_ready hi).2.1
       obtain rfl : l2 = true := AnyOrder.dep (q := 0) hi rfl rfl rfl
       obtain rfl : l1 = true := AnyOrder.dep (q := 1) hi rfl rfl rfl
       clear hi
       simp only [sel_true, selv_true] at hK ⊢
       refine AnyOrder.wpOp_go rfl (by rfl) ?_
       go_wp2_with fail
       refine (node_Kill.calls y.f0.f0 y.f0.f1 y.f1.f0 y.f1.f1 y.f2 y.f3 _ _ _ _ _ _ V rfl).mono ?_
       rintro e V' ⟨rfl, hb⟩
       exact hK _ _ ⟨l0, true, true, true, l4, l5, l6, l7, l8, l9, l10, l11, l12, l13, l14, l15, l16, l17, l18, l19, l20, rfl, rfl, ⟨below_more HF.out hb⟩⟩
      ·
       obtain rfl : l4 = false := (AnyOrder.mem_ready hi).2.1
       obtain rfl : l1 = true := AnyOrder.dep (q := 0) hi rfl rfl rfl
       obtain rfl : l3 = true := AnyOrder.dep (q := 1) hi rfl rfl rfl
       clear hi
       simp only [sel_true, selv_true] at hK ⊢
       refine AnyOrder.wpOp_go rfl (by rfl) ?_
       go_wp2_with fail
       rw [HP.out]
       exact ⟨l0, true, l2, true, true, l5, l6, l7, l8, l9, l10, l11, l12, l13, l14, l15, l16, l17, l18, l19, l20, rfl, rfl, HF⟩
      ·
       obtain rfl : l5 = false := (AnyOrder.mem_ready hi).2.1
       obtain rfl : l4 = true := AnyOrder.dep (q := 0) hi rfl rfl rfl
       obtain rfl : l3 = true := AnyOrder.dep (q := 1) hi rfl rfl rfl
       clear hi
       simp only [sel_true, selv_true] at hK ⊢
       refine AnyOrder.wpOp_go rfl (by rfl) ?_
       go_wp2_with fail
       exact ⟨l0, l1, l2, true, true, true, l6, l7, l8, l9, l10, l11, l12, l13, l14, l15, l16, l17, l18, l19, l20, rfl, rfl, HF⟩
      ·
       obtain rfl : l6 = false := (AnyOrder.mem_ready hi).2.1
       obtain rfl : l5 = true := AnyOrder.dep (q := 0) hi rfl rfl rfl
       clear hi
       simp only [sel_true, selv_true] at hK ⊢
       have hx := blk_keep (blk_drew HXA.out) HF.out
       obtain ⟨x0, x1, x2, x3, x4, x5⟩ := box_six hx
       refine AnyOrder.wpOp_go rfl (by rfl) ?_
       go_wp2_with fail
       exact ⟨l0, l1, l2, l3, l4, true, true, l7, l8, l9, l10, l11, l12, l13, l14, l15, l16, l17, l18, l19, l20, rfl, rfl, HF⟩
      ·
       obtain rfl : l7 = false := (AnyOrder.mem_ready hi).2.1
       obtain rfl : l5 = true := AnyOrder.dep (q := 0) hi rfl rfl rfl
       clear hi
       simp only [sel_true, selv_true] at hK ⊢
       have hx := blk_keep (blk_drew HXB.out) HF.out
       obtain ⟨x0, x1, x2, x3, x4, x5⟩ := box_six hx
       refine AnyOrder.wpOp_go rfl (by rfl) ?_
       go_wp2_with fail
       exact ⟨l0, l1, l2, l3, l4, true, l6, true, l8, l9, l10, l11, l12, l13, l14, l15, l16, l17, l18, l19, l20, rfl, rfl, HF⟩
      ·
       obtain rfl : l8 = false := (AnyOrder.mem_ready hi).2.1
       obtain rfl : l6 = true := AnyOrder.dep (q := 0) hi rfl rfl rfl
       obtain rfl : l7 = true := AnyOrder.dep (q := 1) hi rfl rfl rfl
       obtain rfl : l5 = true := AnyOrder.dep (q := 2) hi rfl rfl rfl
       clear hi
       simp only [sel_true, selv_true] at hK ⊢
       refine AnyOrder.wpOp_go rfl (by rfl) ?_
       go_wp2_with fail
       rw [HQ.out]
       exact ⟨l0, l1, l2, l3, l4, true, true, true, true, l9, l10, l11, l12, l13, l14, l15, l16, l17, l18, l19, l20, rfl, rfl, HF⟩
      ·
       obtain rfl : l9 = false := (AnyOrder.mem_ready hi).2.1
       obtain rfl : l8 = true := AnyOrder.dep (q := 0) hi rfl rfl rfl
       obtain rfl : l5 = true := AnyOrder.dep (q := 1) hi rfl rfl rfl
       clear hi
       simp only [sel_true, selv_true] at hK ⊢
       refine AnyOrder.wpOp_go rfl (by rfl) ?_
       go_wp2_with fail
       exact ⟨l0, l1, l2, l3, l4, true, l6, l7, true, true, l10, l11, l12, l13, l14, l15, l16, l17, l18, l19, l20, rfl, rfl, HF⟩
      ·
       obtain rfl : l10 = false := (AnyOrder.mem_ready hi).2.1
       obtain rfl : l9 = true := AnyOrder.dep (q := 0) hi rfl rfl rfl
       clear hi
       simp only [sel_true, selv_true] at hK ⊢
       have hx := blk_keep (blk_drew HXA.out) HF.out
       obtain ⟨x0, x1, x2, x3, x4, x5⟩ := box_six hx
       refine AnyOrder.wpOp_go rfl (by rfl) ?_
       go_wp2_with fail
       exact ⟨l0, l1, l2, l3, l4, l5, l6, l7, l8, true, true, l11, l12, l13, l14, l15, l16, l17, l18, l19, l20, rfl, rfl, HF⟩
      ·
       obtain rfl : l11 = false := (AnyOrder.mem_ready hi).2.1
       obtain rfl : l10 = true := AnyOrder.dep (q := 0) hi rfl rfl rfl
       obtain rfl : l9 = true := AnyOrder.dep (q := 1) hi rfl rfl rfl
       clear hi
       simp only [sel_true, selv_true] at hK ⊢
       refine AnyOrder.wpOp_go rfl (by rfl) ?_
       go_wp2_with fail
       refine (node_Dead.calls x.f0.f0 x.f0.f1 x.f1.f0 x.f1.f1 x.f2 x.f3 false V (by unfold node_Dead.f; rw [HDA.out])).mono ?_
       rintro e V' ⟨rfl, hb⟩
       exact hK _ _ ⟨l0, l1, l2, l3, l4, l5, l6, l7, l8, true, true, true, l12, l13, l14, l15, l16, l17, l18, l19, l20, rfl, rfl, ⟨below_more HF.out hb⟩⟩
      ·
       obtain rfl : l12 = false := (AnyOrder.mem_ready hi).2.1
       obtain rfl : l11 = true := AnyOrder.dep (q := 0) hi rfl rfl rfl
       obtain rfl : l9 = true := AnyOrder.dep (q := 1) hi rfl rfl rfl
       clear hi
       simp only [sel_true, selv_true] at hK ⊢
       refine AnyOrder.wpOp_go rfl (by rfl) ?_
       go_wp2_with fail
       exact ⟨l0, l1, l2, l3, l4, l5, l6, l7, l8, true, l10, true, true, l13, l14, l15, l16, l17, l18, l19, l20, rfl, rfl, HF⟩
      ·
       obtain rfl : l13 = false := (AnyOrder.mem_ready hi).2.1
       obtain rfl : l9 = true := AnyOrder.dep (q := 0) hi rfl rfl rfl
       obtain rfl : l12 = true := AnyOrder.dep (q := 1) hi rfl rfl rfl
       obtain rfl : l5 = true := AnyOrder.dep (q := 2) hi rfl rfl rfl
       clear hi
       simp only [sel_true, selv_true] at hK ⊢
       refine AnyOrder.wpOp_go rfl (by rfl) ?_
       go_wp2_with fail
       exact ⟨l0, l1, l2, l3, l4, true, l6, l7, l8, true, l10, l11, true, true, l14, l15, l16, l17, l18, l19, l20, rfl, rfl, HF⟩
      ·
       obtain rfl : l14 = false := (AnyOrder.mem_ready hi).2.1
       obtain rfl : l13 = true := AnyOrder.dep (q := 0) hi rfl rfl rfl
       obtain rfl : l11 = true := AnyOrder.dep (q := 1) hi rfl rfl rfl
       obtain rfl : l5 = true := AnyOrder.dep (q := 2) hi rfl rfl rfl
       clear hi
       simp only [sel_true, selv_true] at hK ⊢
       refine AnyOrder.wpOp_go rfl (by rfl) ?_
       go_wp2_with fail
       exact ⟨l0, l1, l2, l3, l4, true, l6, l7, l8, l9, l10, true, l12, true, true, l15, l16, l17, l18, l19, l20, rfl, rfl, HF⟩
      ·
       obtain rfl : l15 = false := (AnyOrder.mem_ready hi).2.1
       obtain rfl : l14 = true := AnyOrder.dep (q := 0) hi rfl rfl rfl
       clear hi
       simp only [sel_true, selv_true] at hK ⊢
       have hx := blk_keep (blk_drew HXB.out) HF.out
       obtain ⟨x0, x1, x2, x3, x4, x5⟩ := box_six hx
       refine AnyOrder.wpOp_go rfl (by rfl) ?_
       go_wp2_with fail
       exact ⟨l0, l1, l2, l3, l4, l5, l6, l7, l8, l9, l10, l11, l12, l13, true, true, l16, l17, l18, l19, l20, rfl, rfl, HF⟩
      ·
       obtain rfl : l16 = false := (AnyOrder.mem_ready hi).2.1
       obtain rfl : l15 = true := AnyOrder.dep (q := 0) hi rfl rfl rfl
       obtain rfl : l14 = true := AnyOrder.dep (q := 1) hi rfl rfl rfl
       clear hi
       simp only [sel_true, selv_true] at hK ⊢
       refine AnyOrder.wpOp_go rfl (by rfl) ?_
       go_wp2_with fail
       refine (node_Dead.calls y.f0.f0 y.f0.f1 y.f1.f0 y.f1.f1 y.f2 y.f3 false V (by unfold node_Dead.f; rw [HDB.out])).mono ?_
       rintro e V' ⟨rfl, hb⟩
       exact hK _ _ ⟨l0, l1, l2, l3, l4, l5, l6, l7, l8, l9, l10, l11, l12, l13, true, true, true, l17, l18, l19, l20, rfl, rfl, ⟨below_more HF.out hb⟩⟩
      ·
       obtain rfl : l17 = false := (AnyOrder.mem_ready hi).2.1
       obtain rfl : l16 = true := AnyOrder.dep (q := 0) hi rfl rfl rfl
       obtain rfl : l14 = true := AnyOrder.dep (q := 1) hi rfl rfl rfl
       clear hi
       simp only [sel_true, selv_true] at hK ⊢
       refine AnyOrder.wpOp_go rfl (by rfl) ?_
       go_wp2_with fail
       exact ⟨l0, l1, l2, l3, l4, l5, l6, l7, l8, l9, l10, l11, l12, l13, true, l15, true, true, l18, l19, l20, rfl, rfl, HF⟩
      ·
       obtain rfl : l18 = false := (AnyOrder.mem_ready hi).2.1
       obtain rfl : l14 = true := AnyOrder.dep (q := 0) hi rfl rfl rfl
       obtain rfl : l17 = true := AnyOrder.dep (q := 1) hi rfl rfl rfl
       obtain rfl : l5 = true := AnyOrder.dep (q := 2) hi rfl rfl rfl
       clear hi
       simp only [sel_true, selv_true] at hK ⊢
       refine AnyOrder.wpOp_go rfl (by rfl) ?_
       go_wp2_with fail
       exact ⟨l0, l1, l2, l3, l4, true, l6, l7, l8, l9, l10, l11, l12, l13, true, l15, l16, true, true, l19, l20, rfl, rfl, HF⟩
      ·
       obtain rfl : l19 = false := (AnyOrder.mem_ready hi).2.1
       obtain rfl : l5 = true := AnyOrder.dep (q := 0) hi rfl rfl rfl
       obtain rfl : l18 = true := AnyOrder.dep (q := 1) hi rfl rfl rfl
       clear hi
       simp only [sel_true, selv_true] at hK ⊢
       refine AnyOrder.wpOp_go rfl (by rfl) ?_
       go_wp2_with fail
       exact ⟨l0, l1, l2, l3, l4, true, l6, l7, l8, l9, l10, l11, l12, l13, l14, l15, l16, l17, true, true, l20, rfl, rfl, HF⟩
      ·
       obtain rfl : l20 = false := (AnyOrder.mem_ready hi).2.1
       obtain rfl : l19 = true := AnyOrder.dep (q := 0) hi rfl rfl rfl
       obtain rfl : l16 = true := AnyOrder.dep (q := 1) hi rfl rfl rfl
       clear hi
       simp only [sel_true, selv_true] at hK ⊢
       refine AnyOrder.wpOp_go rfl (by rfl) ?_
       go_wp2_with fail
       exact ⟨l0, l1, l2, l3, l4, l5, l6, l7, l8, l9, l10, l11, l12, l13, l14, l15, true, l17, l18, true, true, rfl, rfl, HF⟩
     case last =>
      rintro L ac V ⟨l0, l1, l2, l3, l4, l5, l6, l7, l8, l9, l10, l11, l12, l13, l14, l15, l16, l17, l18, l19, l20, rfl, rfl, HF⟩ hr
      have hall := AnyOrder.all_listed rfl (by kernel_rfl) hr
      clear hr
      obtain rfl : l0 = true := hall 0 (by decide)
      obtain rfl : l1 = true := hall 1 (by decide)
      obtain rfl : l2 = true := hall 2 (by decide)
      obtain rfl : l3 = true := hall 3 (by decide)
      obtain rfl : l4 = true := hall 4 (by decide)
      obtain rfl : l5 = true := hall 5 (by decide)
      obtain rfl : l6 = true := hall 6 (by decide)
      obtain rfl : l7 = true := hall 7 (by decide)
      obtain rfl : l8 = true := hall 8 (by decide)
      obtain rfl : l9 = true := hall 9 (by decide)
      obtain rfl : l10 = true := hall 10 (by decide)
      obtain rfl : l11 = true := hall 11 (by decide)
      obtain rfl : l12 = true := hall 12 (by decide)
      obtain rfl : l13 = true := hall 13 (by decide)
      obtain rfl : l14 = true := hall 14 (by decide)
      obtain rfl : l15 = true := hall 15 (by decide)
      obtain rfl : l16 = true := hall 16 (by decide)
      obtain rfl : l17 = true := hall 17 (by decide)
      obtain rfl : l18 = true := hall 18 (by decide)
      obtain rfl : l19 = true := hall 19 (by decide)
      obtain rfl : l20 = true := hall 20 (by decide)
      clear hall
      simp only [sel_true, selv_true]
      clear HP
      have HB := Aside0.mk (below_more HB.out (below_more (below_drew1 (Below.refl _ V2)) HF.out))
      have HXZ := Aside0.mk (blk_keep (blk_drew HXZ.out) HF.out)
      go_wp2_with (refine wpList_boxNode rfl (.tmp 4) (.tmp 37) rfl rfl HXZ.out nodeZ rfl rfl ?_; intro V4 hz4 hg4)
      have HB4 := Aside0.mk (grown_on hg4 HB.out (fun k e => by cases e; omega))
      have HZ4 := Aside0.mk hz4
      refine bodyPost_ret (results_box rfl _ _ _ _ _ _ _ _ _ rfl HZ4.out) rfl ?_
      exact ⟨by unfold mergeV; rw [HM.out]; rfl, HB4.out⟩
 ·
  have HP := Aside0.mk ((ne_node (deadN x) (deadN y)).trans (show decide (deadN x ≠ deadN y) = true from decide_eq_true fun h => h1 (by have := Node.ext_iff'.1 h; exact ⟨this.2.1, this.2.2.1⟩)))
  have HM : Aside0 (mergeN x y = none) := ⟨if_neg fun h => h1 ⟨h.1, h.2.1⟩⟩
  clear h1
  refine AnyOrder.wp_region (by kernel_rfl) (mergeAInv V2.drew w.heap.size (w.heap.size + 1) x y _ _ _ _ _ _ _ _ _ _ _ _ _ _ _ _ _ _ _ _ _ _ _ _ _ _ _ _ _ _ _ _ _ _ _ _ _ _ _ _ _) ⟨false, false, false, false, false, false, false, false, false, false, false, false, false, false, false, false, false, false, false, false, false, rfl, rfl, ⟨Below.refl _ _⟩⟩ ?step ?last
  case step =>
   rintro L ac V i ⟨l0, l1, l2, l3, l4, l5, l6, l7, l8, l9, l10, l11, l12, l13, l14, l15, l16, l17, l18, l19, l20, rfl, rfl, HF⟩ hi K hK
   have h1 : i = 0 ∨ i = 1 ∨ i = 2 ∨ i = 3 ∨ i = 4 ∨ i = 5 ∨ i = 6 ∨ i = 7 ∨ i = 8 ∨ i = 9 ∨ i = 10 ∨ i = 11 ∨ i = 12 ∨ i = 13 ∨ i = 14 ∨ i = 15 ∨ i = 16 ∨ i = 17 ∨ i = 18 ∨ i = 19 ∨ i = 20 := by
    have h1 := (AnyOrder.mem_ready hi).1
    clear hi hK
    change i < 21 at h1
    omega
   rcases h1 with rfl | rfl | rfl | rfl | rfl | rfl | rfl | rfl | rfl | rfl | rfl | rfl | rfl | rfl | rfl | rfl | rfl | rfl | rfl | rfl | rfl
   ·
    obtain rfl : l0 = false := (AnyOrder.mem_ready hi).2.1
    clear hi
    have hx := blk_keep (blk_drew HXA.out) HF.out
    obtain ⟨x0, x1, x2, x3, x4, x5⟩ := box_six hx
    refine AnyOrder.wpOp_go rfl (by rfl) ?_
    go_wp2_with fail
    exact ⟨true, l1, l2, l3, l4, l5, l6, l7, l8, l9, l10, l11, l12, l13, l14, l15, l16, l17, l18, l19, l20, rfl, rfl, HF⟩
   ·
    obtain rfl : l1 = false := (AnyOrder.mem_ready hi).2.1
    obtain rfl : l0 = true := AnyOrder.dep (q := 0) hi rfl rfl rfl
    clear hi
    simp only [sel_true, selv_true] at hK ⊢
    refine AnyOrder.wpOp_go rfl (by rfl) ?_
    go_wp2_with fail
    refine (node_Kill.calls x.f0.f0 x.f0.f1 x.f1.f0 x.f1.f1 x.f2 x.f3 _ _ _ _ _ _ V rfl).mono ?_
    rintro e V' ⟨rfl, hb⟩
    exact hK _ _ ⟨true, true, l2, l3, l4, l5, l6, l7, l8, l9, l10, l11, l12, l13, l14, l15, l16, l17, l18, l19, l20, rfl, rfl, ⟨below_more HF.out hb⟩⟩
   ·
    obtain rfl : l2 = false := (AnyOrder.mem_ready hi).2.1
    clear hi
    have hx := blk_keep (blk_drew HXB.out) HF.out
    obtain ⟨x0, x1, x2, x3, x4, x5⟩ := box_six hx
    refine AnyOrder.wpOp_go rfl (by rfl) ?_
    go_wp2_with fail
    exact ⟨l0, l1, true, l3, l4, l5, l6, l7, l8, l9, l10, l11, l12, l13, l14, l15, l16, l17, l18, l19, l20, rfl, rfl, HF⟩
   ·
    obtain rfl : l3 = false := (AnyOrder.mem_ready hi).2.1
    obtain rfl : l2 = true := AnyOrder.dep (q := 0) hi rfl rfl rfl
    obtain rfl : l1 = true := AnyOrder.dep (q := 1) hi rfl rfl rfl
    clear hi
    simp only [sel_true, selv_true] at hK ⊢
    refine AnyOrder.wpOp_go rfl (by rfl) ?_
    go_wp2_with fail
    refine (node_Kill.calls y.f0.f0 y.f0.f1 y.f1.f0 y.f1.f1 y.f2 y.f3 _ _ _ _ _ _ V rfl).mono ?_
    rintro e V' ⟨rfl, hb⟩
    exact hK _ _ ⟨l0, true, true, true, l4, l5, l6, l7, l8, l9, l10, l11, l12, l13, l14, l15, l16, l17, l18, l19, l20, rfl, rfl, ⟨below_more HF.out hb⟩⟩
   ·
    obtain rfl : l4 = false := (AnyOrder.mem_ready hi).2.1
    obtain rfl : l1 = true := AnyOrder.dep (q := 0) hi rfl rfl rfl
    obtain rfl : l3 = true := AnyOrder.dep (q := 1) hi rfl rfl rfl
    clear hi
    simp only [sel_true, selv_true] at hK ⊢
    refine AnyOrder.wpOp_go rfl (by rfl) ?_
    go_wp2_with fail
    rw [HP.out]
    exact ⟨l0, true, l2, true, true, l5, l6, l7, l8, l9, l10, l11, l12, l13, l14, l15, l16, l17, l18, l19, l20, rfl, rfl, HF⟩
   ·
    obtain rfl : l5 = false := (AnyOrder.mem_ready hi).2.1
    obtain rfl : l4 = true := AnyOrder.dep (q := 0) hi rfl rfl rfl
    obtain rfl : l3 = true := AnyOrder.dep (q := 1) hi rfl rfl rfl
    clear hi
    simp only [sel_true, selv_true] at hK ⊢
    refine AnyOrder.wpOp_go rfl (by rfl) ?_
    go_wp2_with fail
    exact ⟨l0, l1, l2, true, true, true, l6, l7, l8, l9, l10, l11, l12, l13, l14, l15, l16, l17, l18, l19, l20, rfl, rfl, HF⟩
   ·
    obtain rfl : l6 = false := (AnyOrder.mem_ready hi).2.1
    obtain rfl : l5 = true := AnyOrder.dep (q := 0) hi rfl rfl rfl
    clear hi
    simp only [sel_true, selv_true] at hK ⊢
    refine AnyOrder.wpOp_out rfl (by rfl) ?_
    exact hK _ _ ⟨l0, l1, l2, l3, l4, true, true, l7, l8, l9, l10, l11, l12, l13, l14, l15, l16, l17, l18, l19, l20, rfl, rfl, HF⟩
   ·
    obtain rfl : l7 = false := (AnyOrder.mem_ready hi).2.1
    obtain rfl : l5 = true := AnyOrder.dep (q := 0) hi rfl rfl rfl
    clear hi
    simp only [sel_true, selv_true] at hK ⊢
    refine AnyOrder.wpOp_out rfl (by rfl) ?_
    exact hK _ _ ⟨l0, l1, l2, l3, l4, true, l6, true, l8, l9, l10, l11, l12, l13, l14, l15, l16, l17, l18, l19, l20, rfl, rfl, HF⟩
   ·
    obtain rfl : l8 = false := (AnyOrder.mem_ready hi).2.1
    obtain rfl : l6 = true := AnyOrder.dep (q := 0) hi rfl rfl rfl
    obtain rfl : l7 = true := AnyOrder.dep (q := 1) hi rfl rfl rfl
    obtain rfl : l5 = true := AnyOrder.dep (q := 2) hi rfl rfl rfl
    clear hi
    simp only [sel_true, selv_true] at hK ⊢
    refine AnyOrder.wpOp_out rfl (by rfl) ?_
    exact hK _ _ ⟨l0, l1, l2, l3, l4, true, true, true, true, l9, l10, l11, l12, l13, l14, l15, l16, l17, l18, l19, l20, rfl, rfl, HF⟩
   ·
    obtain rfl : l9 = false := (AnyOrder.mem_ready hi).2.1
    obtain rfl : l8 = true := AnyOrder.dep (q := 0) hi rfl rfl rfl
    obtain rfl : l5 = true := AnyOrder.dep (q := 1) hi rfl rfl rfl
    clear hi
    simp only [sel_true, selv_true] at hK ⊢
    refine AnyOrder.wpOp_out rfl (by rfl) ?_
    exact hK _ _ ⟨l0, l1, l2, l3, l4, true, l6, l7, true, true, l10, l11, l12, l13, l14, l15, l16, l17, l18, l19, l20, rfl, rfl, HF⟩
   ·
    obtain rfl : l10 = false := (AnyOrder.mem_ready hi).2.1
    obtain rfl : l9 = true := AnyOrder.dep (q := 0) hi rfl rfl rfl
    clear hi
    simp only [sel_true, selv_true] at hK ⊢
    refine AnyOrder.wpOp_out rfl (by rfl) ?_
    exact hK _ _ ⟨l0, l1, l2, l3, l4, l5, l6, l7, l8, true, true, l11, l12, l13, l14, l15, l16, l17, l18, l19, l20, rfl, rfl, HF⟩
   ·
    obtain rfl : l11 = false := (AnyOrder.mem_ready hi).2.1
    obtain rfl : l10 = true := AnyOrder.dep (q := 0) hi rfl rfl rfl
    obtain rfl : l9 = true := AnyOrder.dep (q := 1) hi rfl rfl rfl
    clear hi
    simp only [sel_true, selv_true] at hK ⊢
    refine AnyOrder.wpOp_out rfl (by rfl) ?_
    exact hK _ _ ⟨l0, l1, l2, l3, l4, l5, l6, l7, l8, true, true, true, l12, l13, l14, l15, l16, l17, l18, l19, l20, rfl, rfl, HF⟩
   ·
    obtain rfl : l12 = false := (AnyOrder.mem_ready hi).2.1
    obtain rfl : l11 = true := AnyOrder.dep (q := 0) hi rfl rfl rfl
    obtain rfl : l9 = true := AnyOrder.dep (q := 1) hi rfl rfl rfl
    clear hi
    simp only [sel_true, selv_true] at hK ⊢
    refine AnyOrder.wpOp_out rfl (by rfl) ?_
    exact hK _ _ ⟨l0, l1, l2, l3, l4, l5, l6, l7, l8, true, l10, true, true, l13, l14, l15, l16, l17, l18, l19, l20, rfl, rfl, HF⟩
   ·
    obtain rfl : l13 = false := (AnyOrder.mem_ready hi).2.1
    obtain rfl : l9 = true := AnyOrder.dep (q := 0) hi rfl rfl rfl
    obtain rfl : l12 = true := AnyOrder.dep (q := 1) hi rfl rfl rfl
    obtain rfl : l5 = true := AnyOrder.dep (q := 2) hi rfl rfl rfl
    clear hi
    simp only [sel_true, selv_true] at hK ⊢
    refine AnyOrder.wpOp_out rfl (by rfl) ?_
    exact hK _ _ ⟨l0, l1, l2, l3, l4, true, l6, l7, l8, true, l10, l11, true, true, l14, l15, l16, l17, l18, l19, l20, rfl, rfl, HF⟩
   ·
    obtain rfl : l14 = false := (AnyOrder.mem_ready hi).2.1
    obtain rfl : l13 = true := AnyOrder.dep (q := 0) hi rfl rfl rfl
    obtain rfl : l11 = true := AnyOrder.dep (q := 1) hi rfl rfl rfl
    obtain rfl : l5 = true := AnyOrder.dep (q := 2) hi rfl rfl rfl
    clear hi
    simp only [sel_true, selv_true] at hK ⊢
    refine AnyOrder.wpOp_out rfl (by rfl) ?_
    exact hK _ _ ⟨l0, l1, l2, l3, l4, true, l6, l7, l8, l9, l10, true, l12, true, true, l15, l16, l17, l18, l19, l20, rfl, rfl, HF⟩
   ·
    obtain rfl : l15 = false := (AnyOrder.mem_ready hi).2.1
    obtain rfl : l14 = true := AnyOrder.dep (q := 0) hi rfl rfl rfl
    clear hi
    simp only [sel_true, selv_true] at hK ⊢
    refine AnyOrder.wpOp_out rfl (by rfl) ?_
    exact hK _ _ ⟨l0, l1, l2, l3, l4, l5, l6, l7, l8, l9, l10, l11, l12, l13, true, true, l16, l17, l18, l19, l20, rfl, rfl, HF⟩
   ·
    obtain rfl : l16 = false := (AnyOrder.mem_ready hi).2.1
    obtain rfl : l15 = true := AnyOrder.dep (q := 0) hi rfl rfl rfl
    obtain rfl : l14 = true := AnyOrder.dep (q := 1) hi rfl rfl rfl
    clear hi
    simp only [sel_true, selv_true] at hK ⊢
    refine AnyOrder.wpOp_out rfl (by rfl) ?_
    exact hK _ _ ⟨l0, l1, l2, l3, l4, l5, l6, l7, l8, l9, l10, l11, l12, l13, true, true, true, l17, l18, l19, l20, rfl, rfl, HF⟩
   ·
    obtain rfl : l17 = false := (AnyOrder.mem_ready hi).2.1
    obtain rfl : l16 = true := AnyOrder.dep (q := 0) hi rfl rfl rfl
    obtain rfl : l14 = true := AnyOrder.dep (q := 1) hi rfl rfl rfl
    clear hi
    simp only [sel_true, selv_true] at hK ⊢
    refine AnyOrder.wpOp_out rfl (by rfl) ?_
    exact hK _ _ ⟨l0, l1, l2, l3, l4, l5, l6, l7, l8, l9, l10, l11, l12, l13, true, l15, true, true, l18, l19, l20, rfl, rfl, HF⟩
   ·
    obtain rfl : l18 = false := (AnyOrder.mem_ready hi).2.1
    obtain rfl : l14 = true := AnyOrder.dep (q := 0) hi rfl rfl rfl
    obtain rfl : l17 = true := AnyOrder.dep (q := 1) hi rfl rfl rfl
    obtain rfl : l5 = true := AnyOrder.dep (q := 2) hi rfl rfl rfl
    clear hi
    simp only [sel_true, selv_true] at hK ⊢
    refine AnyOrder.wpOp_out rfl (by rfl) ?_
    exact hK _ _ ⟨l0, l1, l2, l3, l4, true, l6, l7, l8, l9, l10, l11, l12, l13, true, l15, l16, true, true, l19, l20, rfl, rfl, HF⟩
   ·
    obtain rfl : l19 = false := (AnyOrder.mem_ready hi).2.1
    obtain rfl : l5 = true := AnyOrder.dep (q := 0) hi rfl rfl rfl
    obtain rfl : l18 = true := AnyOrder.dep (q := 1) hi rfl rfl rfl
    clear hi
    simp only [sel_true, selv_true] at hK ⊢
    refine AnyOrder.wpOp_go rfl (by rfl) ?_
    go_wp2_with fail
    exact ⟨l0, l1, l2, l3, l4, true, l6, l7, l8, l9, l10, l11, l12, l13, l14, l15, l16, l17, true, true, l20, rfl, rfl, HF⟩
   ·
    obtain rfl : l20 = false := (AnyOrder.mem_ready hi).2.1
    obtain rfl : l19 = true := AnyOrder.dep (q := 0) hi rfl rfl rfl
    obtain rfl : l16 = true := AnyOrder.dep (q := 1) hi rfl rfl rfl
    clear hi
    simp only [sel_true, selv_true] at hK ⊢
    refine AnyOrder.wpOp_go rfl (by rfl) ?_
    go_wp2_with fail
    exact ⟨l0, l1, l2, l3, l4, l5, l6, l7, l8, l9, l10, l11, l12, l13, l14, l15, true, l17, l18, true, true, rfl, rfl, HF⟩
  case last =>
   rintro L ac V ⟨l0, l1, l2, l3, l4, l5, l6, l7, l8, l9, l10, l11, l12, l13, l14, l15, l16, l17, l18, l19, l20, rfl, rfl, HF⟩ hr
   have hall := AnyOrder.all_listed rfl (by kernel_rfl) hr
   clear hr
   obtain rfl : l0 = true := hall 0 (by decide)
   obtain rfl : l1 = true := hall 1 (by decide)
   obtain rfl : l2 = true := hall 2 (by decide)
   obtain rfl : l3 = true := hall 3 (by decide)
   obtain rfl : l4 = true := hall 4 (by decide)
   obtain rfl : l5 = true := hall 5 (by decide)
   obtain rfl : l6 = true := hall 6 (by decide)
   obtain rfl : l7 = true := hall 7 (by decide)
   obtain rfl : l8 = true := hall 8 (by decide)
   obtain rfl : l9 = true := hall 9 (by decide)
   obtain rfl : l10 = true := hall 10 (by decide)
   obtain rfl : l11 = true := hall 11 (by decide)
   obtain rfl : l12 = true := hall 12 (by decide)
   obtain rfl : l13 = true := hall 13 (by decide)
   obtain rfl : l14 = true := hall 14 (by decide)
   obtain rfl : l15 = true := hall 15 (by decide)
   obtain rfl : l16 = true := hall 16 (by decide)
   obtain rfl : l17 = true := hall 17 (by decide)
   obtain rfl : l18 = true := hall 18 (by decide)
   obtain rfl : l19 = true := hall 19 (by decide)
   obtain rfl : l20 = true := hall 20 (by decide)
   clear hall
   simp only [sel_true, selv_true]
   clear HP
   have HB := Aside0.mk (below_more HB.out (below_more (below_drew1 (Below.refl _ V2)) HF.out))
   have HXZ := Aside0.mk (blk_keep (blk_drew HXZ.out) HF.out)
   go_wp2_with (refine wpList_boxNode rfl (.tmp 4) (.tmp 37) rfl rfl HXZ.out nodeZ rfl rfl ?_; intro V4 hz4 hg4)
   have HB4 := Aside0.mk (grown_on hg4 HB.out (fun k e => by cases e; omega))
   have HZ4 := Aside0.mk hz4
   refine bodyPost_ret (results_box rfl _ _ _ _ _ _ _ _ _ rfl HZ4.out) rfl ?_
   exact ⟨by unfold mergeV; rw [HM.out]; rfl, HB4.out⟩
end Go.Proofs.YtmbndijbpgobeaaGreat.PWalk
end
section
namespace Go.Proofs.YtmbndijbpgobeaaGreat.PWalk
open Go.RowKit Go.Proofs.YtmbndijbpgobeaaGreatW.PrintWords Go.Proofs.YtmbndijbpgobeaaGreatW.PrintLast Go.Proofs.YtmbndijbpgobeaaGreatW.PrintMore
set_option linter.unusedVariables false
set_option linter.unusedSimpArgs false
open Go.Shelf
attribute [local go_sem] Oper.semAt_some
theorem op_append_rows {T : TypeId} (hT : Tryz.prog.underlying T = some (.slice 53)) {o : Oper} {a : Act} {K : Act → World → Prop} {Q : Exit → Act → World → Prop} {W : World} (base : Nat) (hgd : o.guard = none) (s x : Operand)
  (ho : o.op = .call { callee := .builtin .append, args := #[s, x], argTypes := #[T, T] }) (v : Value) (xs ys : List Node) (A : Option Addr) (m c : Nat) (hs : a.eval s = v) (hx : a.eval x = .slice A m c)
  (hr : RN W base v xs) (hc : Kd.C k53 W A m ys) (hb : base ≤ W.heap.size) (hl : xs.length + m ≤ 1000000)
  (h : ∀ v1 w1, RN w1 base v1 (xs ++ ys) → W.grownBy w1 v.ownBlock → (v1.ownBlock = v.ownBlock ∨ ∃ b, v1.ownBlock = some b ∧ W.heap.size ≤ b) → K (a.put o.dst v1) w1) : o.wp Tryz.prog a W K Q := by
 have hw : Region.wanted o (yielded #[] a.tmps) = true := by simp [Region.wanted, hgd]
 have := Kd.R_append_rows_step (P := Tryz.prog) (ops := #[]) (Q := Q) (Kc := K) k53 (w0 := W) base hw s x T 53 (.agg #[(.int .i64 0), (.int .i64 0), (.int .i64 0), (.int .i64 0), (.int .i64 0), (.int .i32 0)]) 48 ho hT info53 rfl (by decide) (by decide) v xs ys A m c (fun _ => True) (fun _ => False) hs hx hr hc (fun x cs h => (by rw [k53_open h]; exact k53_mkM _ _ _ x)) (fun _ hk => hk.elim) (fun _ _ => trivial) (Below.refl _ _) hb (by omega)
  (fun v1 w1 h1 _ h3 h4 => h v1 w1 h1 h3 h4)
 rwa [if_pos hw] at this
theorem app_rows {T : TypeId} (hT : Tryz.prog.underlying T = some (.slice 53)) {ops : Array Oper} {Q : Exit → Act → World → Prop} {o : Oper} {rest : List Oper} {a : Act} {W : World} (base : Nat) (hgd : o.guard = none) (s x : Operand)
  (ho : o.op = .call { callee := .builtin .append, args := #[s, x], argTypes := #[T, T] }) (v : Value) (xs ys : List Node) (A : Option Addr) (m c : Nat) (hs : a.eval s = v) (hx : a.eval x = .slice A m c)
  (hr : RN W base v xs) (hc : Kd.C k53 W A m ys) (hb : base ≤ W.heap.size) (hl : xs.length + m ≤ 1000000)
  (h : ∀ v1 w1, RN w1 base v1 (xs ++ ys) → W.grownBy w1 v.ownBlock → wpList Tryz.prog ops Q rest (a.put o.dst v1) w1) : wpList Tryz.prog ops Q (o :: rest) a W := by
 refine Kd.R_append_rows k53 (w0 := W) base hgd s x T 53 (.agg #[(.int .i64 0), (.int .i64 0), (.int .i64 0), (.int .i64 0), (.int .i64 0), (.int .i32 0)]) 48 ho hT info53 rfl (by decide) (by decide) v xs ys A m c (fun _ => True) (fun _ => False) hs hx hr hc (fun x cs h => (by rw [k53_open h]; exact k53_mkM _ _ _ x)) (fun _ hk => hk.elim) (fun _ _ => trivial) (Below.refl _ _) hb (by omega) ?_
 intro v1 w1 h1 _ h3 _
 exact h v1 w1 h1 h3
theorem cut_fromT {T : TypeId} (hT : Tryz.prog.underlying T = some (.slice 53)) {A : Option Addr} {n c k : Nat} (hm : k ≤ n) (W : World) : (Instr.sliceAt T (.slice A n c) (some (.int .i64 (k : Int))) none none).run Tryz.prog W = .ok (.slice (if c = k then A else A.map (·.add (k * 6))) (n - k) (c - k)) W := by
 obtain ⟨i, hi, _, hs, _⟩ := info_get infoN
 exact run_sliced hT (cut_from _ _ .i64 hT hi 6 hs A n c (k : Int) (by omega) (by omega) W)
/-- All but the first of a row. -/
theorem tail_row {T : TypeId} (hT : Tryz.prog.underlying T = some (.slice 53)) {w : World} {A : Option Addr} {n c : Nat} {x : Node} {l : List Node} (h : Kd.C k53 w A n (x :: l)) (hc : n ≤ c) :
  ∃ (A' : Option Addr) (c' : Nat), Kd.C k53 w A' l.length l ∧ l.length ≤ c' ∧ ∀ W, (Instr.sliceAt T (.slice A n c) (some (.int .i64 1)) none none).run Tryz.prog W = .ok (.slice A' l.length c') W := by
 have hn : (x :: l).length = n := Kd.C_len h
 have h1 := C_from h hn (k := 1) (by rw [← hn]; simp) hc
 have e : n - 1 = l.length := by rw [← hn]; simp
 rw [e] at h1
 refine ⟨_, c - 1, h1, by omega, fun W => ?_⟩
 have := cut_fromT hT (A := A) (n := n) (c := c) (k := 1) (by rw [← hn]; simp) W
 rw [e] at this
 exact this
end Go.Proofs.YtmbndijbpgobeaaGreat.PWalk
end
section
namespace Go.Proofs.YtmbndijbpgobeaaGreat.PWalk
open Go.RowKit Go.Proofs.YtmbndijbpgobeaaGreatW.PrintWords Go.Proofs.YtmbndijbpgobeaaGreatW.PrintLast Go.Proofs.YtmbndijbpgobeaaGreatW.PrintMore
attribute [local go_sem] max2_int max_two
set_option linter.unusedVariables false
set_option linter.unusedSimpArgs false
def index_Left.j0 : Nat → Int → List (S53) → Int → Option (Int × Int × Int)
 | 0, _, _, _ => none
 | k + 1, x1, x6, x7 => if x7 = 0 then (if x1 = 0 then (some (0, 0, 0)) else (if 0 ≤ (wrap64 (x1 - 1)) then (if (wrap64 (x1 - 1)) < (x6.length : Int) then (some ((rd_T53 x6 (wrap64 (x1 - 1))).f0.f0, (rd_T53 x6 (wrap64 (x1 - 1))).f0.f1, 0)) else (none)) else (none))) else (some (0, 0, x7))
def index_Left.f (k : Nat) (l0 : List (S53)) (a1 : Int) : Option (Int × Int × Int) := (index_visible.f l0).bind fun bt167 => (if a1 < 0 then ((index_when.f true 3).bind fun t171 => ((index_first.f k (([bt167.2, t171] : List Int))).bind fun t175 => (index_Left.j0 k a1 bt167.1 t175))) else ((index_when.f (decide (a1 > (bt167.1.length : Int))) 3).bind fun t176 => ((index_first.f k (([bt167.2, t176] : List Int))).bind fun t180 => (index_Left.j0 k a1 bt167.1 t180))))
set_option maxHeartbeats 8000000 in
set_option maxRecDepth 100000 in
theorem index_Left.calls (k : Nat) (A0 : Option Addr) (c0 : Nat) (l0 : List (S53)) (a1 : Int) (r1 : Int) (r2 : Int) (r3 : Int) (w : World) (hr0 : Kd.C k53 w A0 l0.length l0) (hc0 : l0.length ≤ c0) (h : index_Left.f k l0 a1 = some (r1, r2, r3)) :
  Calls Tryz.prog 81 #[.slice A0 l0.length c0, .int .i64 a1] w fun e w' => e = .returned (.tuple #[.agg #[.int .i64 r1, .int .i64 r2], .int .i64 r3]) ∧ Below w.heap.size w w' := by
 have hu25 := Tryz.underlying25
 have HR0 := Aside0.mk hr0
 have HC0 := Aside0.mk hc0
 clear hr0 hc0
 have HB := Aside0.mk (Below.refl w.heap.size w)
 have H : ((index_visible.f l0).bind fun bt167 => (if a1 < 0 then ((index_when.f true 3).bind fun t171 => ((index_first.f k (([bt167.2, t171] : List Int))).bind fun t175 => (index_Left.j0 k a1 bt167.1 t175))) else ((index_when.f (decide (a1 > (bt167.1.length : Int))) 3).bind fun t176 => ((index_first.f k (([bt167.2, t176] : List Int))).bind fun t180 => (index_Left.j0 k a1 bt167.1 t180))))) = some (r1, r2, r3) := h
 clear h
 replace H := Option.bind_eq_some_iff.mp H
 obtain ⟨⟨t167, t168⟩, A30, H⟩ := H
 replace H : (if a1 < 0 then ((index_when.f true 3).bind fun t171 => ((index_first.f k (([t168, t171] : List Int))).bind fun t175 => (index_Left.j0 k a1 t167 t175))) else ((index_when.f (decide (a1 > (t167.length : Int))) 3).bind fun t176 => ((index_first.f k (([t168, t176] : List Int))).bind fun t180 => (index_Left.j0 k a1 t167 t180)))) = some (r1, r2, r3) := H
 have A3 := Aside0.mk A30
 clear A30
 have HC4 := Aside0.mk H
 clear H
 go_enter Tryz.func81, Tryz.ntmps81
 go_upto_region 2 with (first | ((with_reducible refine gate_dst (N := 4) rfl ?_); (try (refine gate_guard (by rfl) ?_; dsimp only)); refine box_event ?hg (N := 4) ?hd (cs := #[.int .i64 0, .int .i64 0]) (t := 25) ?hr ?_; (case hd => rfl); (case hg => rfl); (case hr => first | (go_simp; done) | (go_simp; rfl)); intro gb166 hg w5 hbox hb; have n0_ := Aside0.mk (below_step (by repeat (first | (with_reducible first | exact HB.out | apply below_alloc | apply pw_below_drewN | apply below_drew1) | exact HB.out)) hb); have n1_ := Aside0.mk (hbox); have n2_ := Aside0.mk ((by rw [hg]; exact (below_size (by repeat (first | (with_reducible first | exact HB.out | apply below_alloc | apply pw_below_drewN | apply below_drew1) | exact HB.out))) : w.heap.size ≤ gb166)); have n3_ := Aside0.mk ((by rw [hg]; exact (below_size (by repeat (first | (with_reducible first | exact HB.out | apply below_alloc | apply pw_below_drewN | apply below_drew1) | exact HB.out))) : w.heap.size ≤ gb166)); clear HB; have HB := n0_; have BK166 := n1_; have GW166 := n2_; have GE166 := n3_; clear n0_ n1_ n2_ n3_; clear hb hbox hg) | ((with_reducible refine gate_callee (f := 64) rfl ?_); refine goesL_ (some 10) rfl rfl Tryz.func64 (by kernel_rfl) rfl #[.slice A0 l0.length c0] rfl (by (try simp only [List.map_toArray, List.map_cons, List.map_nil]); first | done | rfl | (simp only [List.length_drop, List.length_take]; rfl)) ?_; (with_reducible refine (index_visible.calls _ _ l0 t167 t168 _ ?side1 ?side2 A3.out).mono ?_); (case side1 => repeat (first | exact (Kd.C_below HR0.out HB.out) | (with_reducible refine Kd.C_alloc ?_ _) | (with_reducible refine Kd.C_drewN ?_ _) | (with_reducible refine Kd.C_drew ?_))); (case side2 => exact HC0.out); rintro e w6 ⟨v169, rfl, ho0, hb⟩; refine ⟨_, rfl, ?_⟩; have n0_ := Aside0.mk (Kd.R_lower ho0 (below_size (by repeat (first | (with_reducible first | exact HB.out | apply below_alloc | apply pw_below_drewN | apply below_drew1 | refine below_set ?_ GE166.out) | exact HB.out)))); have n1_ := Aside0.mk (blk_below (g := gb166) (o := .cells #[.int .i64 0, .int .i64 0] 25 (0, 0)) (by (with_reducible repeat (first | refine blk_drewN ?_ _ | refine blk_drew ?_ | refine blk_alloc ?_ _)); exact BK166.out) hb); have n2_ := Aside0.mk (below_step (by repeat (first | (with_reducible first | exact HB.out | apply below_alloc | apply pw_below_drewN | apply below_drew1 | refine below_set ?_ GE166.out) | exact HB.out)) hb); clear BK166; clear HB; have HO170 := n0_; have BK166 := n1_; have HB := n2_; clear n0_ n1_ n2_; (try clear hb); (try clear hb2); (try clear hk); (try clear hi); (try clear ho0)))
 (try simp only [Act.put, List.setIfInBounds_toArray, List.set_cons_zero, List.set_cons_succ])
 go_cut [7] (fun v7 wc => ∃ (kq : Nat) (x7_3 : Int), v7 = .int .i64 x7_3 ∧ Aside0 (index_Left.j0 kq a1 t167 x7_3 = some (r1, r2, r3)) ∧ Aside0 (kq ≤ k) ∧ Aside0 (Kd.R k53 53 wc w.heap.size (fun _ => True) v169 t167) ∧ Aside0 (wc.heap[gb166]? = some (.cells #[.int .i64 0, .int .i64 0] 25 (0, 0))) ∧ Aside0 (Below w.heap.size w wc))
 case first =>
  have H := HC4.out
  clear HC4
  by_cases c7 : a1 < 0
  ·
   rw [if_pos c7] at H
   have c7b0 : decide (a1 < 0) = true := decide_eq_true c7
   clear c7
   (first | rw [c7b0] | (simp only [i64_w, i32_w]; rw [c7b0]) | rw [c7b1] | skip)
   replace H := Option.bind_eq_some_iff.mp H
   obtain ⟨t171, A80, H⟩ := H
   replace H : ((index_first.f k (([t168, t171] : List Int))).bind fun t175 => (index_Left.j0 k a1 t167 t175)) = some (r1, r2, r3) := H
   have A8 := Aside0.mk A80
   clear A80
   obtain ⟨y172, hy172⟩ : ∃ y_ : List Int, y_ = (([t168, t171] : List Int)) := ⟨_, rfl⟩
   replace H : ((index_first.f k y172).bind fun t175 => (index_Left.j0 k a1 t167 t175)) = some (r1, r2, r3) := by first | (rw [hy172]; with_reducible exact H) | (have H2_ := (Option.bind_some _ _).symm.trans H; rw [hy172]; with_reducible exact H2_) | (have H2_ := (Option.bind_some _ _).symm.trans H; with_reducible exact H2_) | with_reducible exact H | (rw [hy172]; exact H) | exact H
   have Ny172 := Aside0.mk hy172
   clear hy172
   replace H := Option.bind_eq_some_iff.mp H
   obtain ⟨t175, A90, H⟩ := H
   replace H : (index_Left.j0 k a1 t167 t175) = some (r1, r2, r3) := H
   have A9 := Aside0.mk A90
   clear A90
   have H' := Aside0.mk H
   clear H
   go_wp2_with (first | ((with_reducible refine gate_callee (f := 66) rfl ?_); refine goesL_ (some 22) rfl rfl Tryz.func66 (by kernel_rfl) rfl #[.bool true, .int .i64 3] rfl (by (try simp only [List.map_toArray, List.map_cons, List.map_nil]); first | done | rfl | (simp only [List.length_drop, List.length_take]; rfl)) ?_; (with_reducible refine (index_when.calls true 3 t171 _ A8.out).mono ?_); rintro e w' ⟨rfl, ⟨nd, rfl⟩⟩; refine ⟨_, rfl, ?_⟩) | ((with_reducible refine gate_dst (N := 23) rfl ?_); (try (refine gate_guard (by rfl) ?_; dsimp only)); refine Kd.R_lit (Kd.int .i64) _ 29 ?hg (N := 23) ?hd (xs := ([t168, t171] : List Int)) (inner := [.int .i64 t168, .int .i64 t171]) (ok := fun _ => True) (okp := fun _ => True) ?hr ?hp (fun _ hk => hk) trivial (Below.refl _ _) (Nat.le_refl _) (by simp) ?_; (case hd => rfl); (case hg => rfl); (case hr => first | (go_simp; done) | (go_simp; rfl)); (case hp => exact (Reps.one (show Kd.M (Kd.int .i64) _ _ _ t168 [.int .i64 t168] from rfl) (Reps.one (show Kd.M (Kd.int .i64) _ _ _ t171 [.int .i64 t171] from rfl) (Reps.none _ _)))); intro v173 w10 ho11 hb hg_ hnew_; clear hg_ hnew_; (first | rw [← Ny172.out] at ho11 | (simp only [Int.reduceToNat] at ho11; rw [← Ny172.out] at ho11)); have n0_ := Aside0.mk (Kd.R_below (by (with_reducible repeat (first | apply Kd.R_alloc | apply Kd.R_drewN | apply Kd.R_drew)); exact HO170.out) hb); have n1_ := Aside0.mk (Kd.R_lower ho11 (below_size (by repeat (first | (with_reducible first | exact HB.out | apply below_alloc | apply pw_below_drewN | apply below_drew1 | refine below_set ?_ GE166.out) | exact HB.out)))); have n2_ := Aside0.mk (blk_below (g := gb166) (o := .cells #[.int .i64 0, .int .i64 0] 25 (0, 0)) (by (with_reducible repeat (first | refine blk_drewN ?_ _ | refine blk_drew ?_ | refine blk_alloc ?_ _)); exact BK166.out) hb); have n3_ := Aside0.mk (below_step (by repeat (first | (with_reducible first | exact HB.out | apply below_alloc | apply pw_below_drewN | apply below_drew1 | refine below_set ?_ GE166.out) | exact HB.out)) hb); clear HO170; clear BK166; clear HB; have HO170 := n0_; have HO174 := n1_; have BK166 := n2_; have HB := n3_; clear n0_ n1_ n2_ n3_; clear hb ho11; obtain ⟨Ao12, co12, eo12⟩ := Kd.R_slice HO174.out; subst eo12) | ((with_reducible refine gate_callee (f := 65) rfl ?_); refine goesL_ (some 24) rfl rfl Tryz.func65 (by kernel_rfl) rfl #[.slice Ao12 y172.length co12] rfl (by (try simp only [List.map_toArray, List.map_cons, List.map_nil]); first | done | rfl | (simp only [List.length_drop, List.length_take]; rfl)) ?_; (with_reducible refine (index_first.calls k _ _ y172 t175 _ ?side1 ?side2 A9.out).mono ?_); (case side1 => repeat (first | exact (Kd.R_reads' HO174.out).2.2 | (with_reducible refine Kd.C_alloc ?_ _) | (with_reducible refine Kd.C_drewN ?_ _) | (with_reducible refine Kd.C_drew ?_))); (case side2 => exact (Kd.R_reads' HO174.out).2.1); rintro e w' ⟨rfl, ⟨nd, rfl⟩⟩; refine ⟨_, rfl, ?_⟩))
   go_meet
   case rel => exact ⟨_, (t175), (by first | rfl | (simp; done) | (simp [*]; done)), H', ⟨by first | omega | exact Nat.le_refl _⟩, ⟨by (with_reducible repeat (first | apply Kd.R_alloc | apply Kd.R_drewN | apply Kd.R_drew)); exact HO170.out⟩, ⟨by (with_reducible repeat (first | refine blk_drewN ?_ _ | refine blk_drew ?_ | refine blk_alloc ?_ _)); exact BK166.out⟩, ⟨by repeat (first | (with_reducible first | exact HB.out | apply below_alloc | apply pw_below_drewN | apply below_drew1 | refine below_set ?_ GE166.out) | exact HB.out)⟩⟩
  ·
   rw [if_neg c7] at H
   have c7b0 : decide (a1 < 0) = false := decide_eq_false c7
   clear c7
   (first | rw [c7b0] | (simp only [i64_w, i32_w]; rw [c7b0]) | rw [c7b1] | skip)
   replace H := Option.bind_eq_some_iff.mp H
   obtain ⟨t176, A130, H⟩ := H
   replace H : ((index_first.f k (([t168, t176] : List Int))).bind fun t180 => (index_Left.j0 k a1 t167 t180)) = some (r1, r2, r3) := H
   have A13 := Aside0.mk A130
   clear A130
   obtain ⟨y177, hy177⟩ : ∃ y_ : List Int, y_ = (([t168, t176] : List Int)) := ⟨_, rfl⟩
   replace H : ((index_first.f k y177).bind fun t180 => (index_Left.j0 k a1 t167 t180)) = some (r1, r2, r3) := by first | (rw [hy177]; with_reducible exact H) | (have H2_ := (Option.bind_some _ _).symm.trans H; rw [hy177]; with_reducible exact H2_) | (have H2_ := (Option.bind_some _ _).symm.trans H; with_reducible exact H2_) | with_reducible exact H | (rw [hy177]; exact H) | exact H
   have Ny177 := Aside0.mk hy177
   clear hy177
   replace H := Option.bind_eq_some_iff.mp H
   obtain ⟨t180, A140, H⟩ := H
   replace H : (index_Left.j0 k a1 t167 t180) = some (r1, r2, r3) := H
   have A14 := Aside0.mk A140
   clear A140
   have H' := Aside0.mk H
   clear H
   obtain ⟨Ao15, co15, eo15⟩ := Kd.R_slice HO170.out
   subst eo15
   go_wp2_with (first | ((with_reducible refine gate_callee (f := 66) rfl ?_); refine goesL_ (some 22) rfl rfl Tryz.func66 (by kernel_rfl) rfl #[.bool (decide (a1 > (t167.length : Int))), .int .i64 3] rfl (by (try simp only [List.map_toArray, List.map_cons, List.map_nil]); first | done | rfl | (simp only [List.length_drop, List.length_take]; rfl)) ?_; (with_reducible refine (index_when.calls (decide (a1 > (t167.length : Int))) 3 t176 _ A13.out).mono ?_); rintro e w' ⟨rfl, ⟨nd, rfl⟩⟩; refine ⟨_, rfl, ?_⟩) | ((with_reducible refine gate_dst (N := 23) rfl ?_); (try (refine gate_guard (by rfl) ?_; dsimp only)); refine Kd.R_lit (Kd.int .i64) _ 29 ?hg (N := 23) ?hd (xs := ([t168, t176] : List Int)) (inner := [.int .i64 t168, .int .i64 t176]) (ok := fun _ => True) (okp := fun _ => True) ?hr ?hp (fun _ hk => hk) trivial (Below.refl _ _) (Nat.le_refl _) (by simp) ?_; (case hd => rfl); (case hg => rfl); (case hr => first | (go_simp; done) | (go_simp; rfl)); (case hp => exact (Reps.one (show Kd.M (Kd.int .i64) _ _ _ t168 [.int .i64 t168] from rfl) (Reps.one (show Kd.M (Kd.int .i64) _ _ _ t176 [.int .i64 t176] from rfl) (Reps.none _ _)))); intro v178 w16 ho17 hb hg_ hnew_; clear hg_ hnew_; (first | rw [← Ny177.out] at ho17 | (simp only [Int.reduceToNat] at ho17; rw [← Ny177.out] at ho17)); have n0_ := Aside0.mk (Kd.R_below (by (with_reducible repeat (first | apply Kd.R_alloc | apply Kd.R_drewN | apply Kd.R_drew)); exact HO170.out) hb); have n1_ := Aside0.mk (Kd.R_lower ho17 (below_size (by repeat (first | (with_reducible first | exact HB.out | apply below_alloc | apply pw_below_drewN | apply below_drew1 | refine below_set ?_ GE166.out) | exact HB.out)))); have n2_ := Aside0.mk (blk_below (g := gb166) (o := .cells #[.int .i64 0, .int .i64 0] 25 (0, 0)) (by (with_reducible repeat (first | refine blk_drewN ?_ _ | refine blk_drew ?_ | refine blk_alloc ?_ _)); exact BK166.out) hb); have n3_ := Aside0.mk (below_step (by repeat (first | (with_reducible first | exact HB.out | apply below_alloc | apply pw_below_drewN | apply below_drew1 | refine below_set ?_ GE166.out) | exact HB.out)) hb); clear HO170; clear BK166; clear HB; have HO170 := n0_; have HO179 := n1_; have BK166 := n2_; have HB := n3_; clear n0_ n1_ n2_ n3_; clear hb ho17; obtain ⟨Ao18, co18, eo18⟩ := Kd.R_slice HO179.out; subst eo18) | ((with_reducible refine gate_callee (f := 65) rfl ?_); refine goesL_ (some 24) rfl rfl Tryz.func65 (by kernel_rfl) rfl #[.slice Ao18 y177.length co18] rfl (by (try simp only [List.map_toArray, List.map_cons, List.map_nil]); first | done | rfl | (simp only [List.length_drop, List.length_take]; rfl)) ?_; (with_reducible refine (index_first.calls k _ _ y177 t180 _ ?side1 ?side2 A14.out).mono ?_); (case side1 => repeat (first | exact (Kd.R_reads' HO179.out).2.2 | (with_reducible refine Kd.C_alloc ?_ _) | (with_reducible refine Kd.C_drewN ?_ _) | (with_reducible refine Kd.C_drew ?_))); (case side2 => exact (Kd.R_reads' HO179.out).2.1); rintro e w' ⟨rfl, ⟨nd, rfl⟩⟩; refine ⟨_, rfl, ?_⟩))
   go_meet
   case rel => exact ⟨_, (t180), (by first | rfl | (simp; done) | (simp [*]; done)), H', ⟨by first | omega | exact Nat.le_refl _⟩, ⟨by (with_reducible repeat (first | apply Kd.R_alloc | apply Kd.R_drewN | apply Kd.R_drew)); exact HO170.out⟩, ⟨by (with_reducible repeat (first | refine blk_drewN ?_ _ | refine blk_drew ?_ | refine blk_alloc ?_ _)); exact BK166.out⟩, ⟨by repeat (first | (with_reducible first | exact HB.out | apply below_alloc | apply pw_below_drewN | apply below_drew1 | refine below_set ?_ GE166.out) | exact HB.out)⟩⟩
 case rest =>
  clear HC4
  try clear p2
  try clear c6
  try clear c7
  try clear c7b0
  try clear c8
  obtain ⟨kq, x7_3, rfl, HA, HJ3, HO_6, BK166, HB⟩ := hcut
  cases kq with
  | zero => exact absurd HA.out (by simp [index_Left.j0])
  | succ kj3 =>
   have H := HA.out
   clear HA
   simp only [index_Left.j0] at H
   by_cases c19 : x7_3 = 0
   ·
    rw [if_pos c19] at H
    have c19b0 : (x7_3 == 0) = true := beq_iff_eq.mpr c19
    have c19b1 : (x7_3 != 0) = false := bne_eq_false_iff_eq.mpr c19
    clear c19
    by_cases c20 : a1 = 0
    ·
     rw [if_pos c20] at H
     have c20b0 : (a1 == 0) = true := beq_iff_eq.mpr c20
     have c20b1 : (a1 != 0) = false := bne_eq_false_iff_eq.mpr c20
     clear c20
     simp only [Option.some.injEq, Prod.mk.injEq] at H
     obtain ⟨rfl, rfl, rfl⟩ := H
     have hcz21_0 : wc.cell? ⟨gb166, 0, none⟩ = some (.int .i64 0) := (blk_cell BK166.out 0).trans rfl
     have hcz21_1 : wc.cell? ⟨gb166, 1, none⟩ = some (.int .i64 0) := (blk_cell BK166.out 1).trans rfl
     have hfz21_0 := blk_frozen BK166.out 0
     have hfz21_1 := blk_frozen BK166.out 1
     go_wp2
     refine bodyPost_ret (results_ct rfl _ _ gb166 25 #[.int .i64 0, .int .i64 0] (0, 0) _ rfl (by (with_reducible repeat (first | refine blk_drewN ?_ _ | refine blk_drew ?_ | refine blk_alloc ?_ _)); refine blk_put (cs := #[.int .i64 0, .int .i64 0]) ?_ 1 _ rfl; (with_reducible repeat (first | refine blk_drewN ?_ _ | refine blk_drew ?_ | refine blk_alloc ?_ _)); refine blk_put (cs := #[.int .i64 0, .int .i64 0]) ?_ 0 _ rfl; (with_reducible repeat (first | refine blk_drewN ?_ _ | refine blk_drew ?_ | refine blk_alloc ?_ _)); exact BK166.out) Tryz.underlying25 rfl (by kernel_rfl)) rfl ?_
     exact ⟨by first | rfl | (simp [errW_none, errW_some] <;> rfl) | (simp [*, errW_none, errW_some] <;> rfl), by repeat (first | (with_reducible first | exact HB.out | apply below_alloc | apply pw_below_drewN | apply below_drew1 | refine below_set ?_ GE166.out) | exact HB.out)⟩
    ·
     rw [if_neg c20] at H
     have c20b0 : (a1 == 0) = false := beq_eq_false_iff_ne.mpr c20
     have c20b1 : (a1 != 0) = true := bne_iff_ne.mpr c20
     obtain ⟨ji22, hji22⟩ : ∃ j_ : Int, (wrap64 (a1 - 1)) = j_ := ⟨_, rfl⟩
     replace H : (if 0 ≤ (ji22) then (if (ji22) < (t167.length : Int) then (some ((rd_T53 t167 (ji22)).f0.f0, (rd_T53 t167 (ji22)).f0.f1, 0)) else (none)) else (none)) = some (r1, r2, r3) := by first | (rw [hji22] at H; exact H) | (simp only [hji22] at H ⊢; exact H)
     have hji22w : (IntKind.i64.wrap (a1 - 1)) = ji22 := (i64_w _).trans hji22
     by_cases c23 : 0 ≤ (ji22)
     ·
      rw [if_pos c23] at H
      have c23b0 : decide (0 ≤ (ji22)) = true := decide_eq_true c23
      clear c23
      by_cases c24 : (ji22) < (t167.length : Int)
      ·
       rw [if_pos c24] at H
       have c24b0 : decide ((ji22) < (t167.length : Int)) = true := decide_eq_true c24
       clear c24
       simp only [Option.some.injEq, Prod.mk.injEq] at H
       obtain ⟨rfl, rfl, rfl⟩ := H
       obtain ⟨Ao25, co25, eo25⟩ := Kd.R_slice HO_6.out
       subst eo25
       have p181 : 0 ≤ ((ji22) : Int) := of_decide_eq_true (by first | (with_reducible assumption) | assumption)
       have q181 : (ji22) < (t167.length : Int) := of_decide_eq_true (by first | (with_reducible assumption) | assumption)
       obtain ⟨ad181, e181, hx181_0, hx181_1, hx181_2, hx181_3, hx181_4, hx181_5⟩ := at_T53 (Kd.R_reads' HO_6.out).2.2 (ji22) p181 q181
       cases e181
       replace p181 := eq_true p181
       replace q181 := eq_true q181
       have hcz26_0 : wc.cell? ⟨gb166, 0, none⟩ = some (.int .i64 0) := (blk_cell BK166.out 0).trans rfl
       have hcz26_1 : wc.cell? ⟨gb166, 1, none⟩ = some (.int .i64 0) := (blk_cell BK166.out 1).trans rfl
       have hfz26_0 := blk_frozen BK166.out 0
       have hfz26_1 := blk_frozen BK166.out 1
       go_wp2
       refine bodyPost_ret (results_ct rfl _ _ gb166 25 #[.int .i64 ((rd_T53 t167 (ji22)).f0.f0), .int .i64 ((rd_T53 t167 (ji22)).f0.f1)] (0, 0) _ rfl (by (with_reducible repeat (first | refine blk_drewN ?_ _ | refine blk_drew ?_ | refine blk_alloc ?_ _)); refine blk_put (cs := #[.int .i64 ((rd_T53 t167 (ji22)).f0.f0), .int .i64 0]) ?_ 1 _ rfl; (with_reducible repeat (first | refine blk_drewN ?_ _ | refine blk_drew ?_ | refine blk_alloc ?_ _)); refine blk_put (cs := #[.int .i64 0, .int .i64 0]) ?_ 0 _ rfl; (with_reducible repeat (first | refine blk_drewN ?_ _ | refine blk_drew ?_ | refine blk_alloc ?_ _)); exact BK166.out) Tryz.underlying25 rfl (by kernel_rfl)) rfl ?_
       exact ⟨by first | rfl | (simp [errW_none, errW_some] <;> rfl) | (simp only [← hji22]; first | rfl | (simp [errW_none, errW_some] <;> rfl)) | (simp [*, errW_none, errW_some] <;> rfl), by repeat (first | (with_reducible first | exact HB.out | apply below_alloc | apply pw_below_drewN | apply below_drew1 | refine below_set ?_ GE166.out) | exact HB.out)⟩
      ·
       rw [if_neg c24] at H
       exact absurd H (by simp)
     ·
      rw [if_neg c23] at H
      exact absurd H (by simp)
   ·
    rw [if_neg c19] at H
    have c19b0 : (x7_3 == 0) = false := beq_eq_false_iff_ne.mpr c19
    have c19b1 : (x7_3 != 0) = true := bne_iff_ne.mpr c19
    simp only [Option.some.injEq, Prod.mk.injEq] at H
    obtain ⟨rfl, rfl, rfl⟩ := H
    have hcz27_0 : wc.cell? ⟨gb166, 0, none⟩ = some (.int .i64 0) := (blk_cell BK166.out 0).trans rfl
    have hcz27_1 : wc.cell? ⟨gb166, 1, none⟩ = some (.int .i64 0) := (blk_cell BK166.out 1).trans rfl
    have hfz27_0 := blk_frozen BK166.out 0
    have hfz27_1 := blk_frozen BK166.out 1
    go_wp2
    refine bodyPost_ret (results_ct rfl _ _ gb166 25 #[.int .i64 0, .int .i64 0] (0, 0) _ rfl (by (with_reducible repeat (first | refine blk_drewN ?_ _ | refine blk_drew ?_ | refine blk_alloc ?_ _)); refine blk_put (cs := #[.int .i64 0, .int .i64 0]) ?_ 1 _ rfl; (with_reducible repeat (first | refine blk_drewN ?_ _ | refine blk_drew ?_ | refine blk_alloc ?_ _)); refine blk_put (cs := #[.int .i64 0, .int .i64 0]) ?_ 0 _ rfl; (with_reducible repeat (first | refine blk_drewN ?_ _ | refine blk_drew ?_ | refine blk_alloc ?_ _)); exact BK166.out) Tryz.underlying25 rfl (by kernel_rfl)) rfl ?_
    exact ⟨by first | rfl | (simp [errW_none, errW_some] <;> rfl) | (simp [*, errW_none, errW_some] <;> rfl), by repeat (first | (with_reducible first | exact HB.out | apply below_alloc | apply pw_below_drewN | apply below_drew1 | refine below_set ?_ GE166.out) | exact HB.out)⟩
def join_Valid.f (l0 : List (S53)) : Option (Bool) := (store_Valid.f l0).bind fun t190 => (some t190)
set_option maxHeartbeats 8000000 in
set_option maxRecDepth 100000 in
theorem join_Valid.calls (A0 : Option Addr) (c0 : Nat) (l0 : List (S53)) (r : Bool) (w : World) (hr0 : Kd.C k53 w A0 l0.length l0) (hc0 : l0.length ≤ c0) (h : join_Valid.f l0 = some r) :
  Calls Tryz.prog 84 #[.slice A0 l0.length c0] w fun e w' => e = .returned (.bool r) ∧ Below w.heap.size w w' := by
 have HR0 := Aside0.mk hr0
 have HC0 := Aside0.mk hc0
 clear hr0 hc0
 have HB := Aside0.mk (Below.refl w.heap.size w)
 have H : ((store_Valid.f l0).bind fun t190 => (some t190)) = some r := h
 clear h
 replace H := Option.bind_eq_some_iff.mp H
 obtain ⟨t190, A20, H⟩ := H
 replace H : (some t190) = some r := H
 have A2 := Aside0.mk A20
 clear A20
 obtain rfl := Option.some.inj H
 go_enter Tryz.func84, Tryz.ntmps84
 go_wp2_with (first | ((with_reducible refine gate_callee (f := 67) rfl ?_); refine goesL_ (some 4) rfl rfl Tryz.func67 (by kernel_rfl) rfl #[.slice A0 l0.length c0] rfl (by (try simp only [List.map_toArray, List.map_cons, List.map_nil]); first | done | rfl | (simp only [List.length_drop, List.length_take]; rfl)) ?_; (with_reducible refine (store_Valid.calls _ _ l0 t190 _ ?side1 ?side2 A2.out).mono ?_); (case side1 => repeat (first | exact HR0.out | (with_reducible refine Kd.C_alloc ?_ _) | (with_reducible refine Kd.C_drewN ?_ _) | (with_reducible refine Kd.C_drew ?_))); (case side2 => exact HC0.out); rintro e w3 ⟨rfl, hb⟩; refine ⟨_, rfl, ?_⟩; have n0_ := Aside0.mk (below_step (by repeat (first | (with_reducible first | exact HB.out | apply below_alloc | apply pw_below_drewN | apply below_drew1) | exact HB.out)) hb); clear HB; have HB := n0_; clear n0_; (try clear hb); (try clear hb2); (try clear hk); (try clear hi)))
 go_ret
 exact ⟨by first | rfl | (simp [errW_none, errW_some] <;> rfl) | (simp [*, errW_none, errW_some] <;> rfl), by repeat (first | (with_reducible first | exact HB.out | apply below_alloc | apply pw_below_drewN | apply below_drew1) | exact HB.out)⟩
end Go.Proofs.YtmbndijbpgobeaaGreat.PWalk
end
