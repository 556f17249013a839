/-
  Of inverts At, Before of a visible node is its index, Text has as many characters as Len says and those are Runes, and Dots of neighbouring parts, one after the other, is that of both; for every list of nodes and number. Part 3 of 8.
-/
import Derived.Test.YtjlpaagnajmogaaDoorVB
import Derived.StillTailTactics
import Derived.Maps.OwnOps
import Derived.IntWalk
import Derived.RangeFuncNested
import Derived.RangeFuncBound
import Derived.RangeFuncCalls
import Derived.RangeFuncLeaves
import Derived.Shelf.Abstract
import Derived.Shelf.RegionOpen
import Derived.OwnWalkIn
import Derived.TacticsInMore
import Derived.LoopNIn
import Derived.LoopIn
import Derived.RangeFuncBox
import Derived.Maps.AppendAt
import Derived.Lib.BufferMore
import Derived.Laws.CopyRow
import Derived.LoopTactic
import Derived.Outline
import Derived.WalkKit
import Derived.Sort.Grow
import Derived.Lib.Overlaps
import Derived.Lib.AppendZerosOnto
import Derived.Laws.Externs
section
namespace Go.Proofs.YtjlpaagnajmogaaDoor.PWalk
open Go.RowKit Go.Proofs.YtjlpaagnajmogaaDoorW.PrintWords Go.Proofs.YtjlpaagnajmogaaDoorW.PrintLast Go.Proofs.YtjlpaagnajmogaaDoorW.PrintMore
set_option linter.unusedVariables false
set_option linter.unusedSimpArgs false
open Go.Shelf
attribute [local go_sem] Oper.semAt_some
/-- A node stands before another one with the same parent. -/
def nodeLt (a b : Node) : Bool := if a.f2 = b.f2 then dotLt b.f0 a.f0 else decide (b.f2 < a.f2)
def Gr (w W : World) : Prop := ∃ (q : Nat) (os : Array Obj), W = Go.Sort.grow (w.drewN q) os
theorem Gr.trans {a b c : World} (h : Gr a b) (k : Gr b c) : Gr a c := by
 obtain ⟨q, os, rfl⟩ := h
 obtain ⟨q', os', rfl⟩ := k
 exact ⟨q + q', os ++ os', by show Go.Sort.grow (Go.Sort.grow ((a.drewN q).drewN q') os) os' = _; rw [Go.Sort.grow_grow, World.drewN_drewN]⟩
theorem Gr.drew (w : World) : Gr w w.drew := ⟨1, #[], by rw [Go.Sort.grow_empty]; rfl⟩
theorem Gr.alloc (w : World) (o : Obj) : Gr w (w.alloc o) := ⟨0, #[o], by rw [Go.Sort.alloc_eq_grow]; rfl⟩
theorem Gr.drawn {w W : World} (h : Drawn0 w W) : Gr w W := by
 obtain ⟨n, rfl⟩ := h
 exact ⟨n, #[], by rw [Go.Sort.grow_empty]⟩
theorem Gr.below {w W : World} (h : Gr w W) : Below w.heap.size w W := by
 obtain ⟨q, os, rfl⟩ := h
 exact ⟨rfl, rfl, rfl, by show w.heap.size ≤ (w.heap ++ os).size; simp, fun k hk => by show (w.heap ++ os)[k]? = _; rw [Array.getElem?_append_left hk]⟩
theorem Gr.blk {w W : World} (h : Gr w W) {g : Nat} {o : Obj} (hg : w.heap[g]? = some o) : W.heap[g]? = some o := blk_keep hg h.below
def cmpI (a b : Int) : Int := if a < b then -1 else if b < a then 1 else 0
theorem cmpI_call (a b : Int) (W : World) : Calls Tryd.prog 85 #[.int .i64 a, .int .i64 b] W fun e W' => e = .returned (.int .i64 (cmpI a b)) ∧ Gr W W' :=
 (cmp_Compare_int.calls a b _ W (cmpCompare_is a b)).mono fun _ _ ⟨he, hd⟩ => ⟨he, Gr.drawn hd⟩
def orI (a b : Int) : Int := if a = 0 then b else a
theorem orI_call (a b : Int) (g : Nat) (W : World) (hg : W.heap[g]? = some (.cells #[.int .i64 a, .int .i64 b] 3 (0, 0))) : Calls Tryd.prog 84 #[.slice (some ⟨g, 0, none⟩) 2 2] W fun e W' => e = .returned (.int .i64 (orI a b)) ∧ Gr W W' := by
 refine (cmp_Or_int.calls 5 (some ⟨g, 0, none⟩) 2 [a, b] (orI a b) W ?_ (Nat.le_refl _) ?_).mono fun _ _ ⟨he, hd⟩ => ⟨he, Gr.drawn hd⟩
 ·
  refine ⟨rfl, by simp, fun _ => ⟨_, rfl, fun i x hi => ⟨[.int .i64 x], rfl, rfl, fun j u hu => ?_⟩⟩⟩
  rcases i with _ | _ | i
  ·
   rcases j with _ | j
   ·
    simp only [List.getElem?_cons_zero, Option.some.injEq] at hi hu; subst hi hu
    exact (blk_cell hg 0).trans rfl
   ·
    simp at hu
  ·
   rcases j with _ | j
   ·
    simp only [List.getElem?_cons_zero, List.getElem?_cons_succ, Option.some.injEq] at hi hu; subst hi hu
    exact (blk_cell hg 1).trans rfl
   ·
    simp at hu
  ·
   simp at hi
 ·
  unfold cmp_Or_int.f orI
  have w1 : wrap64 1 = 1 := by unfold wrap64; omega
  have w2 : wrap64 2 = 2 := by unfold wrap64; omega
  have w3 : wrap64 (1 + 1) = 2 := by unfold wrap64; omega
  by_cases h0 : a = 0
  ·
   by_cases h1 : b = 0
   ·
    simp [cmp_Or_int.l0, rd, h0, h1, w1, w2, w3]
   ·
    simp [cmp_Or_int.l0, rd, h0, h1, w1]
  ·
   simp [cmp_Or_int.l0, rd, h0]
theorem orI_dot (a b : Dot) : orI (cmpI a.f1 b.f1) (cmpI a.f0 b.f0) = dotCmp a b := by
 unfold orI cmpI dotCmp dotLt
 rcases Int.lt_trichotomy a.f1 b.f1 with h | h | h
 ·
  simp [h]
 ·
  rcases Int.lt_trichotomy a.f0 b.f0 with g | g | g
  ·
   simp [h, g]
  ·
   simp [h, g]
  ·
   have g' : ¬ a.f0 < b.f0 := by omega
   simp [h, g, g']
 ·
  have h' : ¬ a.f1 < b.f1 := by omega
  have h2 : ¬ a.f1 = b.f1 := by omega
  have h3 : ¬ b.f1 = a.f1 := by omega
  simp [h, h', h2, h3]
def sel (b : Bool) (v : Value) : Value := if b then v else undef
@[simp] theorem sel_true (v : Value) : sel true v = v := rfl
@[simp] theorem sel_false (v : Value) : sel false v = undef := rfl
/-- A place that an operation turns from u to v. -/
def selv (b : Bool) (v u : Value) : Value := if b then v else u
@[simp] theorem selv_true (v u : Value) : selv true v u = v := rfl
@[simp] theorem selv_false (v u : Value) : selv false v u = u := rfl
/-- Two boxes, and the pair of answers once it is laid. -/
structure Two (W0 : World) (A B : Nat) (oA oB : Obj) (x y : Int) (l : Bool) (g : Nat) (V : World) : Prop where
 gr : Gr W0 V
 a : W0.heap[A]? = some oA
 b : W0.heap[B]? = some oB
 pair : l = true → V.heap[g]? = some (.cells #[.int .i64 x, .int .i64 y] 3 (0, 0))
theorem Two.more {W0 : World} {A B : Nat} {oA oB : Obj} {x y : Int} {l : Bool} {g : Nat} {V V' : World} (h : Two W0 A B oA oB x y l g V) (k : Gr V V') : Two W0 A B oA oB x y l g V' := ⟨h.gr.trans k, h.a, h.b, fun e => k.blk (h.pair e)⟩
theorem Two.laid {W0 : World} {A B : Nat} {oA oB : Obj} {x y : Int} {l : Bool} {g : Nat} {V : World} (h : Two W0 A B oA oB x y l g V) : Two W0 A B oA oB x y true V.heap.size (V.alloc (.cells #[.int .i64 x, .int .i64 y] 3 (0, 0))) := ⟨h.gr.trans (Gr.alloc _ _), h.a, h.b, fun _ => blk_new _ _⟩
def dotCmpInv (W0 : World) (A B : Nat) (a b : Dot) (L : Array Bool) (ac : Act) (V : World) : Prop := ∃ (l0 l1 l2 l3 l4 l5 l6 l7 l8 l9 l10 l11 l12 : Bool) (g : Nat), L = #[l0, l1, l2, l3, l4, l5, l6, l7, l8, l9, l10, l11, l12] ∧ ac = { tmps := #[vDot a, vDot b, .pointer (some ⟨A, 0, none⟩), .pointer (some ⟨B, 0, none⟩), selv l12 (.int .i64 (orI (cmpI a.f1 b.f1) (cmpI a.f0 b.f0))) (.int .i64 0), sel l0 (.pointer (some ⟨A, 1, none⟩)), sel l1 (.int .i64 a.f1), sel l2 (.pointer (some ⟨B, 1, none⟩)), sel l3 (.int .i64 b.f1), sel l4 (.int .i64 (cmpI a.f1 b.f1)), sel l5 (.pointer (some ⟨A, 0, none⟩)), sel l6 (.int .i64 a.f0), sel l7 (.pointer (some ⟨B, 0, none⟩)), sel l8 (.int .i64 b.f0), sel l9 (.int .i64 (cmpI a.f0 b.f0)), sel l10 (.slice (some ⟨g, 0, none⟩) 2 2), sel l11 (.int .i64 (orI (cmpI a.f1 b.f1) (cmpI a.f0 b.f0)))], defers := [] } ∧ Aside0 (Two W0 A B (.cells #[.int .i64 a.f0, .int .i64 a.f1] 35 (0, 0)) (.cells #[.int .i64 b.f0, .int .i64 b.f1] 35 (0, 0)) (cmpI a.f1 b.f1) (cmpI a.f0 b.f0) l10 g V)
set_option maxHeartbeats 1000000 in
set_option maxRecDepth 100000 in
theorem dotCmp_call (a b : Dot) (w : World) : Calls Tryd.prog 71 #[vDot a, vDot b] w fun e w' => e = .returned (.int .i64 (dotCmp a b)) ∧ Gr w w' := by
 have hB : ((w.alloc (.cells #[.int .i64 a.f0, .int .i64 a.f1] 35 (0, 0))).alloc (.cells #[.int .i64 b.f0, .int .i64 b.f1] 35 (0, 0))).heap[w.heap.size + 1]? = some (.cells #[.int .i64 b.f0, .int .i64 b.f1] 35 (0, 0)) := by have := blk_new (w.alloc (.cells #[.int .i64 a.f0, .int .i64 a.f1] 35 (0, 0))) (.cells #[.int .i64 b.f0, .int .i64 b.f1] 35 (0, 0)); rwa [World.size_alloc] at this
 have HB := Aside0.mk hB
 clear hB
 go_enter Tryd.func71, Tryd.ntmps71
 go_wp2_with fail
 have hB := HB.out
 refine AnyOrder.wp_region (by kernel_rfl) (dotCmpInv ((w.alloc (.cells #[.int .i64 a.f0, .int .i64 a.f1] 35 (0, 0))).alloc (.cells #[.int .i64 b.f0, .int .i64 b.f1] 35 (0, 0))) w.heap.size (w.heap.size + 1) a b) ?start ?step ?last
 case start => exact ⟨false, false, false, false, false, false, false, false, false, false, false, false, false, 0, rfl, rfl, ⟨⟨Gr.drew _, blk_alloc (blk_new _ _) _, hB, fun h => by cases h⟩⟩⟩
 case step =>
  rintro L ac V i ⟨l0, l1, l2, l3, l4, l5, l6, l7, l8, l9, l10, l11, l12, g, rfl, rfl, HF⟩ hi K hK
  have h1 : i = 0 ∨ i = 1 ∨ i = 2 ∨ i = 3 ∨ i = 4 ∨ i = 5 ∨ i = 6 ∨ i = 7 ∨ i = 8 ∨ i = 9 ∨ i = 10 ∨ i = 11 ∨ i = 12 := by
   have h1 := (AnyOrder.mem_ready hi).1
   clear hi hK
   change i < 13 at h1
   omega
  rcases h1 with rfl | rfl | rfl | rfl | rfl | rfl | rfl | rfl | rfl | rfl | rfl | rfl | rfl
  ·
   obtain rfl : l0 = false := (AnyOrder.mem_ready hi).2.1
   clear hi
   refine AnyOrder.wpOp_go rfl (by rfl) ?_
   go_wp2_with fail
   exact ⟨true, l1, l2, l3, l4, l5, l6, l7, l8, l9, l10, l11, l12, g, rfl, rfl, HF⟩
  ·
   obtain rfl : l1 = false := (AnyOrder.mem_ready hi).2.1
   obtain rfl : l0 = true := AnyOrder.dep (q := 0) hi rfl rfl rfl
   clear hi
   simp only [sel_true, selv_true] at hK ⊢
   have c1 : V.cell? ⟨w.heap.size, 1, none⟩ = _ := (blk_cell (HF.out.gr.blk HF.out.a) 1).trans rfl
   refine AnyOrder.wpOp_go rfl (by rfl) ?_
   go_wp2_with fail
   exact ⟨true, true, l2, l3, l4, l5, l6, l7, l8, l9, l10, l11, l12, g, rfl, rfl, HF⟩
  ·
   obtain rfl : l2 = false := (AnyOrder.mem_ready hi).2.1
   clear hi
   refine AnyOrder.wpOp_go rfl (by rfl) ?_
   go_wp2_with fail
   exact ⟨l0, l1, true, l3, l4, l5, l6, l7, l8, l9, l10, l11, l12, g, rfl, rfl, HF⟩
  ·
   obtain rfl : l3 = false := (AnyOrder.mem_ready hi).2.1
   obtain rfl : l2 = true := AnyOrder.dep (q := 0) hi rfl rfl rfl
   clear hi
   simp only [sel_true, selv_true] at hK ⊢
   have c1 : V.cell? ⟨w.heap.size + 1, 1, none⟩ = _ := (blk_cell (HF.out.gr.blk HF.out.b) 1).trans rfl
   refine AnyOrder.wpOp_go rfl (by rfl) ?_
   go_wp2_with fail
   exact ⟨l0, l1, true, true, l4, l5, l6, l7, l8, l9, l10, l11, l12, g, rfl, rfl, HF⟩
  ·
   obtain rfl : l4 = false := (AnyOrder.mem_ready hi).2.1
   obtain rfl : l1 = true := AnyOrder.dep (q := 0) hi rfl rfl rfl
   obtain rfl : l3 = true := AnyOrder.dep (q := 1) hi rfl rfl rfl
   clear hi
   simp only [sel_true, selv_true] at hK ⊢
   refine AnyOrder.wpOp_go rfl (by rfl) ?_
   go_wp2_with fail
   refine (cmpI_call _ _ V).mono ?_
   rintro e V' ⟨rfl, hb⟩
   exact hK _ _ ⟨l0, true, l2, true, true, l5, l6, l7, l8, l9, l10, l11, l12, g, rfl, rfl, ⟨HF.out.more hb⟩⟩
  ·
   obtain rfl : l5 = false := (AnyOrder.mem_ready hi).2.1
   clear hi
   refine AnyOrder.wpOp_go rfl (by rfl) ?_
   go_wp2_with fail
   exact ⟨l0, l1, l2, l3, l4, true, l6, l7, l8, l9, l10, l11, l12, g, rfl, rfl, HF⟩
  ·
   obtain rfl : l6 = false := (AnyOrder.mem_ready hi).2.1
   obtain rfl : l5 = true := AnyOrder.dep (q := 0) hi rfl rfl rfl
   clear hi
   simp only [sel_true, selv_true] at hK ⊢
   have c0 : V.cell? ⟨w.heap.size, 0, none⟩ = _ := (blk_cell (HF.out.gr.blk HF.out.a) 0).trans rfl
   refine AnyOrder.wpOp_go rfl (by rfl) ?_
   go_wp2_with fail
   exact ⟨l0, l1, l2, l3, l4, true, true, l7, l8, l9, l10, l11, l12, g, rfl, rfl, HF⟩
  ·
   obtain rfl : l7 = false := (AnyOrder.mem_ready hi).2.1
   clear hi
   refine AnyOrder.wpOp_go rfl (by rfl) ?_
   go_wp2_with fail
   exact ⟨l0, l1, l2, l3, l4, l5, l6, true, l8, l9, l10, l11, l12, g, rfl, rfl, HF⟩
  ·
   obtain rfl : l8 = false := (AnyOrder.mem_ready hi).2.1
   obtain rfl : l7 = true := AnyOrder.dep (q := 0) hi rfl rfl rfl
   clear hi
   simp only [sel_true, selv_true] at hK ⊢
   have c0 : V.cell? ⟨w.heap.size + 1, 0, none⟩ = _ := (blk_cell (HF.out.gr.blk HF.out.b) 0).trans rfl
   refine AnyOrder.wpOp_go rfl (by rfl) ?_
   go_wp2_with fail
   exact ⟨l0, l1, l2, l3, l4, l5, l6, true, true, l9, l10, l11, l12, g, rfl, rfl, HF⟩
  ·
   obtain rfl : l9 = false := (AnyOrder.mem_ready hi).2.1
   obtain rfl : l6 = true := AnyOrder.dep (q := 0) hi rfl rfl rfl
   obtain rfl : l8 = true := AnyOrder.dep (q := 1) hi rfl rfl rfl
   obtain rfl : l4 = true := AnyOrder.dep (q := 2) hi rfl rfl rfl
   clear hi
   simp only [sel_true, selv_true] at hK ⊢
   refine AnyOrder.wpOp_go rfl (by rfl) ?_
   go_wp2_with fail
   refine (cmpI_call _ _ V).mono ?_
   rintro e V' ⟨rfl, hb⟩
   exact hK _ _ ⟨l0, l1, l2, l3, true, l5, true, l7, true, true, l10, l11, l12, g, rfl, rfl, ⟨HF.out.more hb⟩⟩
  ·
   obtain rfl : l10 = false := (AnyOrder.mem_ready hi).2.1
   obtain rfl : l4 = true := AnyOrder.dep (q := 0) hi rfl rfl rfl
   obtain rfl : l9 = true := AnyOrder.dep (q := 1) hi rfl rfl rfl
   clear hi
   simp only [sel_true, selv_true] at hK ⊢
   refine AnyOrder.wpOp_go rfl (by rfl) ?_
   go_wp2_with fail
   exact ⟨l0, l1, l2, l3, true, l5, l6, l7, l8, true, true, l11, l12, V.heap.size, rfl, rfl, ⟨HF.out.laid⟩⟩
  ·
   obtain rfl : l11 = false := (AnyOrder.mem_ready hi).2.1
   obtain rfl : l10 = true := AnyOrder.dep (q := 0) hi rfl rfl rfl
   obtain rfl : l9 = true := AnyOrder.dep (q := 1) hi rfl rfl rfl
   clear hi
   simp only [sel_true, selv_true] at hK ⊢
   refine AnyOrder.wpOp_go rfl (by rfl) ?_
   go_wp2_with fail
   refine (orI_call _ _ _ V (HF.out.pair rfl)).mono ?_
   rintro e V' ⟨rfl, hb⟩
   exact hK _ _ ⟨l0, l1, l2, l3, l4, l5, l6, l7, l8, true, true, true, l12, g, rfl, rfl, ⟨HF.out.more hb⟩⟩
  ·
   obtain rfl : l12 = false := (AnyOrder.mem_ready hi).2.1
   obtain rfl : l11 = true := AnyOrder.dep (q := 0) hi rfl rfl rfl
   obtain rfl : l0 = true := AnyOrder.dep (q := 2) hi rfl rfl rfl
   obtain rfl : l1 = true := AnyOrder.dep (q := 3) hi rfl rfl rfl
   obtain rfl : l2 = true := AnyOrder.dep (q := 4) hi rfl rfl rfl
   obtain rfl : l3 = true := AnyOrder.dep (q := 5) hi rfl rfl rfl
   obtain rfl : l4 = true := AnyOrder.dep (q := 6) hi rfl rfl rfl
   obtain rfl : l5 = true := AnyOrder.dep (q := 7) hi rfl rfl rfl
   obtain rfl : l6 = true := AnyOrder.dep (q := 8) hi rfl rfl rfl
   obtain rfl : l7 = true := AnyOrder.dep (q := 9) hi rfl rfl rfl
   obtain rfl : l8 = true := AnyOrder.dep (q := 10) hi rfl rfl rfl
   obtain rfl : l9 = true := AnyOrder.dep (q := 11) hi rfl rfl rfl
   obtain rfl : l10 = true := AnyOrder.dep (q := 12) hi rfl rfl rfl
   clear hi
   simp only [sel_true, selv_true] at hK ⊢
   refine AnyOrder.wpOp_go rfl (by rfl) ?_
   go_wp2_with fail
   exact ⟨true, true, true, true, true, true, true, true, true, true, true, true, true, g, rfl, rfl, HF⟩
 case last =>
  rintro L ac V ⟨l0, l1, l2, l3, l4, l5, l6, l7, l8, l9, l10, l11, l12, g, rfl, rfl, HF⟩ hr
  have hall := AnyOrder.all_listed rfl (by kernel_rfl) hr
  clear hr
  obtain rfl : l0 = true := hall 0 (by decide)
  obtain rfl : l1 = true := hall 1 (by decide)
  obtain rfl : l2 = true := hall 2 (by decide)
  obtain rfl : l3 = true := hall 3 (by decide)
  obtain rfl : l4 = true := hall 4 (by decide)
  obtain rfl : l5 = true := hall 5 (by decide)
  obtain rfl : l6 = true := hall 6 (by decide)
  obtain rfl : l7 = true := hall 7 (by decide)
  obtain rfl : l8 = true := hall 8 (by decide)
  obtain rfl : l9 = true := hall 9 (by decide)
  obtain rfl : l10 = true := hall 10 (by decide)
  obtain rfl : l11 = true := hall 11 (by decide)
  obtain rfl : l12 = true := hall 12 (by decide)
  clear hall
  simp only [sel_true, selv_true]
  go_wp2
  go_ret
  exact ⟨by rw [orI_dot]; rfl, ((Gr.alloc w _).trans (Gr.alloc _ _)).trans HF.out.gr⟩
def nodeLtInv (W0 : World) (A B : Nat) (a b : Node) (L : Array Bool) (ac : Act) (V : World) : Prop := ∃ (l0 l1 l2 l3 l4 l5 l6 l7 l8 l9 l10 l11 l12 l13 : Bool) (g : Nat), L = #[l0, l1, l2, l3, l4, l5, l6, l7, l8, l9, l10, l11, l12, l13] ∧ ac = { tmps := #[vNode a, vNode b, .pointer (some ⟨A, 0, none⟩), .pointer (some ⟨B, 0, none⟩), selv l13 (.bool (decide (orI (cmpI b.f2 a.f2) (dotCmp b.f0 a.f0) < 0))) (.bool false), sel l0 (.pointer (some ⟨B, 4, none⟩)), sel l1 (.int .i64 b.f2), sel l2 (.pointer (some ⟨A, 4, none⟩)), sel l3 (.int .i64 a.f2), sel l4 (.int .i64 (cmpI b.f2 a.f2)), sel l5 (.pointer (some ⟨B, 0, none⟩)), sel l6 (vDot b.f0), sel l7 (.pointer (some ⟨A, 0, none⟩)), sel l8 (vDot a.f0), sel l9 (.int .i64 (dotCmp b.f0 a.f0)), sel l10 (.slice (some ⟨g, 0, none⟩) 2 2), sel l11 (.int .i64 (orI (cmpI b.f2 a.f2) (dotCmp b.f0 a.f0))), sel l12 (.bool (decide (orI (cmpI b.f2 a.f2) (dotCmp b.f0 a.f0) < 0)))], defers := [] } ∧ Aside0 (Two W0 A B (.cells #[.int .i64 a.f0.f0, .int .i64 a.f0.f1, .int .i64 a.f1.f0, .int .i64 a.f1.f1, .int .i64 a.f2, .int .i32 a.f3] 37 (0, 0)) (.cells #[.int .i64 b.f0.f0, .int .i64 b.f0.f1, .int .i64 b.f1.f0, .int .i64 b.f1.f1, .int .i64 b.f2, .int .i32 b.f3] 37 (0, 0)) (cmpI b.f2 a.f2) (dotCmp b.f0 a.f0) l10 g V)
theorem orI_node (a b : Node) : decide (orI (cmpI b.f2 a.f2) (dotCmp b.f0 a.f0) < 0) = nodeLt a b := by
 unfold orI cmpI nodeLt dotCmp
 rcases Int.lt_trichotomy a.f2 b.f2 with h | h | h
 ·
  have h' : ¬ b.f2 < a.f2 := by omega
  have h2 : ¬ a.f2 = b.f2 := by omega
  simp [h, h', h2]
 ·
  have h' : ¬ b.f2 < a.f2 := by omega
  have h3 : ¬ a.f2 < b.f2 := by omega
  rw [if_neg h', if_neg h3, if_pos rfl, if_pos h]
  cases h4 : dotLt b.f0 a.f0
  ·
   cases dotLt a.f0 b.f0 <;> simp
  ·
   simp
 ·
  have h2 : ¬ a.f2 = b.f2 := by omega
  simp [h, h2]
set_option maxHeartbeats 1000000 in
set_option maxRecDepth 100000 in
theorem nodeLt_call (a b : Node) (w : World) : Calls Tryd.prog 108 #[vNode a, vNode b] w fun e w' => e = .returned (.bool (nodeLt a b)) ∧ Gr w w' := by
 have hB : ((w.alloc (.cells #[.int .i64 a.f0.f0, .int .i64 a.f0.f1, .int .i64 a.f1.f0, .int .i64 a.f1.f1, .int .i64 a.f2, .int .i32 a.f3] 37 (0, 0))).alloc (.cells #[.int .i64 b.f0.f0, .int .i64 b.f0.f1, .int .i64 b.f1.f0, .int .i64 b.f1.f1, .int .i64 b.f2, .int .i32 b.f3] 37 (0, 0))).heap[w.heap.size + 1]? = some (.cells #[.int .i64 b.f0.f0, .int .i64 b.f0.f1, .int .i64 b.f1.f0, .int .i64 b.f1.f1, .int .i64 b.f2, .int .i32 b.f3] 37 (0, 0)) := by have := blk_new (w.alloc (.cells #[.int .i64 a.f0.f0, .int .i64 a.f0.f1, .int .i64 a.f1.f0, .int .i64 a.f1.f1, .int .i64 a.f2, .int .i32 a.f3] 37 (0, 0))) (.cells #[.int .i64 b.f0.f0, .int .i64 b.f0.f1, .int .i64 b.f1.f0, .int .i64 b.f1.f1, .int .i64 b.f2, .int .i32 b.f3] 37 (0, 0)); rwa [World.size_alloc] at this
 have HB := Aside0.mk hB
 clear hB
 go_enter Tryd.func108, Tryd.ntmps108
 go_wp2_with fail
 have hB := HB.out
 refine AnyOrder.wp_region (by kernel_rfl) (nodeLtInv ((w.alloc (.cells #[.int .i64 a.f0.f0, .int .i64 a.f0.f1, .int .i64 a.f1.f0, .int .i64 a.f1.f1, .int .i64 a.f2, .int .i32 a.f3] 37 (0, 0))).alloc (.cells #[.int .i64 b.f0.f0, .int .i64 b.f0.f1, .int .i64 b.f1.f0, .int .i64 b.f1.f1, .int .i64 b.f2, .int .i32 b.f3] 37 (0, 0))) w.heap.size (w.heap.size + 1) a b) ?start ?step ?last
 case start => exact ⟨false, false, false, false, false, false, false, false, false, false, false, false, false, false, 0, rfl, rfl, ⟨⟨Gr.drew _, blk_alloc (blk_new _ _) _, hB, fun h => by cases h⟩⟩⟩
 case step =>
  rintro L ac V i ⟨l0, l1, l2, l3, l4, l5, l6, l7, l8, l9, l10, l11, l12, l13, g, rfl, rfl, HF⟩ hi K hK
  have h1 : i = 0 ∨ i = 1 ∨ i = 2 ∨ i = 3 ∨ i = 4 ∨ i = 5 ∨ i = 6 ∨ i = 7 ∨ i = 8 ∨ i = 9 ∨ i = 10 ∨ i = 11 ∨ i = 12 ∨ i = 13 := by
   have h1 := (AnyOrder.mem_ready hi).1
   clear hi hK
   change i < 14 at h1
   omega
  rcases h1 with rfl | rfl | rfl | rfl | rfl | rfl | rfl | rfl | rfl | rfl | rfl | rfl | rfl | rfl
  ·
   obtain rfl : l0 = false := (AnyOrder.mem_ready hi).2.1
   clear hi
   refine AnyOrder.wpOp_go rfl (by rfl) ?_
   go_wp2_with fail
   exact ⟨true, l1, l2, l3, l4, l5, l6, l7, l8, l9, l10, l11, l12, l13, g, rfl, rfl, HF⟩
  ·
   obtain rfl : l1 = false := (AnyOrder.mem_ready hi).2.1
   obtain rfl : l0 = true := AnyOrder.dep (q := 0) hi rfl rfl rfl
   clear hi
   simp only [sel_true, selv_true] at hK ⊢
   have c4 : V.cell? ⟨w.heap.size + 1, 4, none⟩ = _ := (blk_cell (HF.out.gr.blk HF.out.b) 4).trans rfl
   refine AnyOrder.wpOp_go rfl (by rfl) ?_
   go_wp2_with fail
   exact ⟨true, true, l2, l3, l4, l5, l6, l7, l8, l9, l10, l11, l12, l13, g, rfl, rfl, HF⟩
  ·
   obtain rfl : l2 = false := (AnyOrder.mem_ready hi).2.1
   clear hi
   refine AnyOrder.wpOp_go rfl (by rfl) ?_
   go_wp2_with fail
   exact ⟨l0, l1, true, l3, l4, l5, l6, l7, l8, l9, l10, l11, l12, l13, g, rfl, rfl, HF⟩
  ·
   obtain rfl : l3 = false := (AnyOrder.mem_ready hi).2.1
   obtain rfl : l2 = true := AnyOrder.dep (q := 0) hi rfl rfl rfl
   clear hi
   simp only [sel_true, selv_true] at hK ⊢
   have c4 : V.cell? ⟨w.heap.size, 4, none⟩ = _ := (blk_cell (HF.out.gr.blk HF.out.a) 4).trans rfl
   refine AnyOrder.wpOp_go rfl (by rfl) ?_
   go_wp2_with fail
   exact ⟨l0, l1, true, true, l4, l5, l6, l7, l8, l9, l10, l11, l12, l13, g, rfl, rfl, HF⟩
  ·
   obtain rfl : l4 = false := (AnyOrder.mem_ready hi).2.1
   obtain rfl : l1 = true := AnyOrder.dep (q := 0) hi rfl rfl rfl
   obtain rfl : l3 = true := AnyOrder.dep (q := 1) hi rfl rfl rfl
   clear hi
   simp only [sel_true, selv_true] at hK ⊢
   refine AnyOrder.wpOp_go rfl (by rfl) ?_
   go_wp2_with fail
   refine (cmpI_call _ _ V).mono ?_
   rintro e V' ⟨rfl, hb⟩
   exact hK _ _ ⟨l0, true, l2, true, true, l5, l6, l7, l8, l9, l10, l11, l12, l13, g, rfl, rfl, ⟨HF.out.more hb⟩⟩
  ·
   obtain rfl : l5 = false := (AnyOrder.mem_ready hi).2.1
   clear hi
   refine AnyOrder.wpOp_go rfl (by rfl) ?_
   go_wp2_with fail
   exact ⟨l0, l1, l2, l3, l4, true, l6, l7, l8, l9, l10, l11, l12, l13, g, rfl, rfl, HF⟩
  ·
   obtain rfl : l6 = false := (AnyOrder.mem_ready hi).2.1
   obtain rfl : l5 = true := AnyOrder.dep (q := 0) hi rfl rfl rfl
   clear hi
   simp only [sel_true, selv_true] at hK ⊢
   have c0 : V.cell? ⟨w.heap.size + 1, 0, none⟩ = _ := (blk_cell (HF.out.gr.blk HF.out.b) 0).trans rfl
   have c1 : V.cell? ⟨w.heap.size + 1, 1, none⟩ = _ := (blk_cell (HF.out.gr.blk HF.out.b) 1).trans rfl
   refine AnyOrder.wpOp_go rfl (by rfl) ?_
   go_wp2_with fail
   exact ⟨l0, l1, l2, l3, l4, true, true, l7, l8, l9, l10, l11, l12, l13, g, rfl, rfl, HF⟩
  ·
   obtain rfl : l7 = false := (AnyOrder.mem_ready hi).2.1
   clear hi
   refine AnyOrder.wpOp_go rfl (by rfl) ?_
   go_wp2_with fail
   exact ⟨l0, l1, l2, l3, l4, l5, l6, true, l8, l9, l10, l11, l12, l13, g, rfl, rfl, HF⟩
  ·
   obtain rfl : l8 = false := (AnyOrder.mem_ready hi).2.1
   obtain rfl : l7 = true := AnyOrder.dep (q := 0) hi rfl rfl rfl
   clear hi
   simp only [sel_true, selv_true] at hK ⊢
   have c0 : V.cell? ⟨w.heap.size, 0, none⟩ = _ := (blk_cell (HF.out.gr.blk HF.out.a) 0).trans rfl
   have c1 : V.cell? ⟨w.heap.size, 1, none⟩ = _ := (blk_cell (HF.out.gr.blk HF.out.a) 1).trans rfl
   refine AnyOrder.wpOp_go rfl (by rfl) ?_
   go_wp2_with fail
   exact ⟨l0, l1, l2, l3, l4, l5, l6, true, true, l9, l10, l11, l12, l13, g, rfl, rfl, HF⟩
  ·
   obtain rfl : l9 = false := (AnyOrder.mem_ready hi).2.1
   obtain rfl : l6 = true := AnyOrder.dep (q := 0) hi rfl rfl rfl
   obtain rfl : l8 = true := AnyOrder.dep (q := 1) hi rfl rfl rfl
   obtain rfl : l4 = true := AnyOrder.dep (q := 2) hi rfl rfl rfl
   clear hi
   simp only [sel_true, selv_true] at hK ⊢
   refine AnyOrder.wpOp_go rfl (by rfl) ?_
   go_wp2_with fail
   refine (dotCmp_call b.f0 a.f0 V).mono ?_
   rintro e V' ⟨rfl, hb⟩
   exact hK _ _ ⟨l0, l1, l2, l3, true, l5, true, l7, true, true, l10, l11, l12, l13, g, rfl, rfl, ⟨HF.out.more hb⟩⟩
  ·
   obtain rfl : l10 = false := (AnyOrder.mem_ready hi).2.1
   obtain rfl : l4 = true := AnyOrder.dep (q := 0) hi rfl rfl rfl
   obtain rfl : l9 = true := AnyOrder.dep (q := 1) hi rfl rfl rfl
   clear hi
   simp only [sel_true, selv_true] at hK ⊢
   refine AnyOrder.wpOp_go rfl (by rfl) ?_
   go_wp2_with fail
   exact ⟨l0, l1, l2, l3, true, l5, l6, l7, l8, true, true, l11, l12, l13, V.heap.size, rfl, rfl, ⟨HF.out.laid⟩⟩
  ·
   obtain rfl : l11 = false := (AnyOrder.mem_ready hi).2.1
   obtain rfl : l10 = true := AnyOrder.dep (q := 0) hi rfl rfl rfl
   obtain rfl : l9 = true := AnyOrder.dep (q := 1) hi rfl rfl rfl
   clear hi
   simp only [sel_true, selv_true] at hK ⊢
   refine AnyOrder.wpOp_go rfl (by rfl) ?_
   go_wp2_with fail
   refine (orI_call _ _ _ V (HF.out.pair rfl)).mono ?_
   rintro e V' ⟨rfl, hb⟩
   exact hK _ _ ⟨l0, l1, l2, l3, l4, l5, l6, l7, l8, true, true, true, l12, l13, g, rfl, rfl, ⟨HF.out.more hb⟩⟩
  ·
   obtain rfl : l12 = false := (AnyOrder.mem_ready hi).2.1
   obtain rfl : l11 = true := AnyOrder.dep (q := 0) hi rfl rfl rfl
   clear hi
   simp only [sel_true, selv_true] at hK ⊢
   refine AnyOrder.wpOp_go rfl (by rfl) ?_
   go_wp2_with fail
   exact ⟨l0, l1, l2, l3, l4, l5, l6, l7, l8, l9, l10, true, true, l13, g, rfl, rfl, HF⟩
  ·
   obtain rfl : l13 = false := (AnyOrder.mem_ready hi).2.1
   obtain rfl : l12 = true := AnyOrder.dep (q := 0) hi rfl rfl rfl
   obtain rfl : l11 = true := AnyOrder.dep (q := 1) hi rfl rfl rfl
   obtain rfl : l0 = true := AnyOrder.dep (q := 2) hi rfl rfl rfl
   obtain rfl : l1 = true := AnyOrder.dep (q := 3) hi rfl rfl rfl
   obtain rfl : l2 = true := AnyOrder.dep (q := 4) hi rfl rfl rfl
   obtain rfl : l3 = true := AnyOrder.dep (q := 5) hi rfl rfl rfl
   obtain rfl : l4 = true := AnyOrder.dep (q := 6) hi rfl rfl rfl
   obtain rfl : l5 = true := AnyOrder.dep (q := 7) hi rfl rfl rfl
   obtain rfl : l6 = true := AnyOrder.dep (q := 8) hi rfl rfl rfl
   obtain rfl : l7 = true := AnyOrder.dep (q := 9) hi rfl rfl rfl
   obtain rfl : l8 = true := AnyOrder.dep (q := 10) hi rfl rfl rfl
   obtain rfl : l9 = true := AnyOrder.dep (q := 11) hi rfl rfl rfl
   obtain rfl : l10 = true := AnyOrder.dep (q := 12) hi rfl rfl rfl
   clear hi
   simp only [sel_true, selv_true] at hK ⊢
   refine AnyOrder.wpOp_go rfl (by rfl) ?_
   go_wp2_with fail
   exact ⟨true, true, true, true, true, true, true, true, true, true, true, true, true, true, g, rfl, rfl, HF⟩
 case last =>
  rintro L ac V ⟨l0, l1, l2, l3, l4, l5, l6, l7, l8, l9, l10, l11, l12, l13, g, rfl, rfl, HF⟩ hr
  have hall := AnyOrder.all_listed rfl (by kernel_rfl) hr
  clear hr
  obtain rfl : l0 = true := hall 0 (by decide)
  obtain rfl : l1 = true := hall 1 (by decide)
  obtain rfl : l2 = true := hall 2 (by decide)
  obtain rfl : l3 = true := hall 3 (by decide)
  obtain rfl : l4 = true := hall 4 (by decide)
  obtain rfl : l5 = true := hall 5 (by decide)
  obtain rfl : l6 = true := hall 6 (by decide)
  obtain rfl : l7 = true := hall 7 (by decide)
  obtain rfl : l8 = true := hall 8 (by decide)
  obtain rfl : l9 = true := hall 9 (by decide)
  obtain rfl : l10 = true := hall 10 (by decide)
  obtain rfl : l11 = true := hall 11 (by decide)
  obtain rfl : l12 = true := hall 12 (by decide)
  obtain rfl : l13 = true := hall 13 (by decide)
  clear hall
  simp only [sel_true, selv_true]
  go_wp2
  go_ret
  exact ⟨by rw [orI_node]; rfl, ((Gr.alloc w _).trans (Gr.alloc _ _)).trans HF.out.gr⟩
end Go.Proofs.YtjlpaagnajmogaaDoor.PWalk
end
section
namespace Go.Proofs.YtjlpaagnajmogaaDoor.PWalk
open Go.RowKit Go.Proofs.YtjlpaagnajmogaaDoorW.PrintWords Go.Proofs.YtjlpaagnajmogaaDoorW.PrintLast Go.Proofs.YtjlpaagnajmogaaDoorW.PrintMore
set_option linter.unusedVariables false
set_option linter.unusedSimpArgs false
open Go.Shelf
attribute [local go_sem] Oper.semAt_some
def firstI (a b : Node) : Int := if nodeLt a b = true then -1 else if nodeLt b a = true then 1 else 0
set_option maxHeartbeats 1000000 in
set_option maxRecDepth 100000 in
theorem first_call (a b : Node) (w : World) : Calls Tryd.prog 99 #[vNode a, vNode b] w fun e w' => e = .returned (.int .i64 (firstI a b)) ∧ Gr w w' := by
 have hA : ((w.alloc (.cells #[.int .i64 a.f0.f0, .int .i64 a.f0.f1, .int .i64 a.f1.f0, .int .i64 a.f1.f1, .int .i64 a.f2, .int .i32 a.f3] 37 (0, 0))).alloc (.cells #[.int .i64 b.f0.f0, .int .i64 b.f0.f1, .int .i64 b.f1.f0, .int .i64 b.f1.f1, .int .i64 b.f2, .int .i32 b.f3] 37 (0, 0))).heap[w.heap.size]? = some (.cells #[.int .i64 a.f0.f0, .int .i64 a.f0.f1, .int .i64 a.f1.f0, .int .i64 a.f1.f1, .int .i64 a.f2, .int .i32 a.f3] 37 (0, 0)) := blk_alloc (blk_new _ _) _
 have hB : ((w.alloc (.cells #[.int .i64 a.f0.f0, .int .i64 a.f0.f1, .int .i64 a.f1.f0, .int .i64 a.f1.f1, .int .i64 a.f2, .int .i32 a.f3] 37 (0, 0))).alloc (.cells #[.int .i64 b.f0.f0, .int .i64 b.f0.f1, .int .i64 b.f1.f0, .int .i64 b.f1.f1, .int .i64 b.f2, .int .i32 b.f3] 37 (0, 0))).heap[w.heap.size + 1]? = some (.cells #[.int .i64 b.f0.f0, .int .i64 b.f0.f1, .int .i64 b.f1.f0, .int .i64 b.f1.f1, .int .i64 b.f2, .int .i32 b.f3] 37 (0, 0)) := by have := blk_new (w.alloc (.cells #[.int .i64 a.f0.f0, .int .i64 a.f0.f1, .int .i64 a.f1.f0, .int .i64 a.f1.f1, .int .i64 a.f2, .int .i32 a.f3] 37 (0, 0))) (.cells #[.int .i64 b.f0.f0, .int .i64 b.f0.f1, .int .i64 b.f1.f0, .int .i64 b.f1.f1, .int .i64 b.f2, .int .i32 b.f3] 37 (0, 0)); rwa [World.size_alloc] at this
 have HA := Aside0.mk hA
 have HB := Aside0.mk hB
 have HG := Aside0.mk ((Gr.alloc w (.cells #[.int .i64 a.f0.f0, .int .i64 a.f0.f1, .int .i64 a.f1.f0, .int .i64 a.f1.f1, .int .i64 a.f2, .int .i32 a.f3] 37 (0, 0))).trans (Gr.alloc _ (.cells #[.int .i64 b.f0.f0, .int .i64 b.f0.f1, .int .i64 b.f1.f0, .int .i64 b.f1.f1, .int .i64 b.f2, .int .i32 b.f3] 37 (0, 0))))
 clear hA hB
 obtain ⟨r, HR⟩ : ∃ r, Aside0 (firstI a b = r) := ⟨_, ⟨rfl⟩⟩
 rw [HR.out]
 go_enter Tryd.func99, Tryd.ntmps99
 go_wp2_with fail
 generalize (w.alloc (.cells #[.int .i64 a.f0.f0, .int .i64 a.f0.f1, .int .i64 a.f1.f0, .int .i64 a.f1.f1, .int .i64 a.f2, .int .i32 a.f3] 37 (0, 0))).alloc (.cells #[.int .i64 b.f0.f0, .int .i64 b.f0.f1, .int .i64 b.f1.f0, .int .i64 b.f1.f1, .int .i64 b.f2, .int .i32 b.f3] 37 (0, 0)) = W0 at HA HB HG ⊢
 refine (nodeLt_call a b W0).mono ?_
 rintro e W1 ⟨rfl, hb⟩
 have HA := Aside0.mk (hb.blk HA.out)
 have HB := Aside0.mk (hb.blk HB.out)
 have HG := Aside0.mk (HG.out.trans hb)
 clear hb
 cases h1 : nodeLt a b with
 | true =>
  have H1 := Aside0.mk h1
  clear h1
  go_wp2_with fail
  go_ret
  exact ⟨by rw [← HR.out, firstI, if_pos H1.out]; rfl, HG.out⟩
 | false =>
  have H1 := Aside0.mk h1
  clear h1
  have cA0 : W1.cell? ⟨w.heap.size, 0, none⟩ = _ := (blk_cell HA.out 0).trans rfl
  have cA1 : W1.cell? ⟨w.heap.size, 1, none⟩ = _ := (blk_cell HA.out 1).trans rfl
  have cA2 : W1.cell? ⟨w.heap.size, 2, none⟩ = _ := (blk_cell HA.out 2).trans rfl
  have cA3 : W1.cell? ⟨w.heap.size, 3, none⟩ = _ := (blk_cell HA.out 3).trans rfl
  have cA4 : W1.cell? ⟨w.heap.size, 4, none⟩ = _ := (blk_cell HA.out 4).trans rfl
  have cA5 : W1.cell? ⟨w.heap.size, 5, none⟩ = _ := (blk_cell HA.out 5).trans rfl
  have cB0 : W1.cell? ⟨w.heap.size + 1, 0, none⟩ = _ := (blk_cell HB.out 0).trans rfl
  have cB1 : W1.cell? ⟨w.heap.size + 1, 1, none⟩ = _ := (blk_cell HB.out 1).trans rfl
  have cB2 : W1.cell? ⟨w.heap.size + 1, 2, none⟩ = _ := (blk_cell HB.out 2).trans rfl
  have cB3 : W1.cell? ⟨w.heap.size + 1, 3, none⟩ = _ := (blk_cell HB.out 3).trans rfl
  have cB4 : W1.cell? ⟨w.heap.size + 1, 4, none⟩ = _ := (blk_cell HB.out 4).trans rfl
  have cB5 : W1.cell? ⟨w.heap.size + 1, 5, none⟩ = _ := (blk_cell HB.out 5).trans rfl
  go_wp2_with fail
  refine (nodeLt_call b a W1).mono ?_
  rintro e W2 ⟨rfl, hb⟩
  have HG := Aside0.mk (HG.out.trans hb)
  clear hb
  cases h2 : nodeLt b a with
  | true =>
   have H2 := Aside0.mk h2
   clear h2
   go_wp2_with fail
   go_ret
   exact ⟨by rw [← HR.out, firstI, if_neg (by rw [H1.out]; decide), if_pos H2.out]; rfl, HG.out⟩
  | false =>
   have H2 := Aside0.mk h2
   clear h2
   go_wp2_with fail
   go_ret
   exact ⟨by rw [← HR.out, firstI, if_neg (by rw [H1.out]; decide), if_neg (by rw [H2.out]; decide)]; rfl, HG.out⟩
abbrev cmpV : Value := .func (.func 71) #[] #[]
abbrev vEnt (k : Dot) (v : Value) : Value := .agg #[.int .i64 k.f0, .int .i64 k.f1, v]
structure Find1 (W0 : World) (bm mp A B : Nat) (k : Dot) (v : Value) (d : Dot) (sl : Value) (V : World) : Prop where
 gr : Gr W0 V
 box : W0.heap[bm]? = some (.cells #[.pointer (some ⟨mp, 0, none⟩)] 119 (0, 0))
 map : W0.heap[mp]? = some (.cells #[cmpV, sl] 141 (0, 0))
 ent : W0.heap[A]? = some (.cells #[.int .i64 k.f0, .int .i64 k.f1, v] 144 (0, 0))
 key : W0.heap[B]? = some (.cells #[.int .i64 d.f0, .int .i64 d.f1] 35 (0, 0))
def find1Inv (W0 : World) (bm mp A B : Nat) (k : Dot) (v : Value) (d : Dot) (sl : Value) (L : Array Bool) (ac : Act) (V : World) : Prop := ∃ (l0 l1 l2 l3 l4 l5 l6 l7 l8 : Bool), L = #[l0, l1, l2, l3, l4, l5, l6, l7, l8] ∧ ac = { tmps := #[vEnt k v, vDot d, .pointer (some ⟨bm, 0, none⟩), .pointer (some ⟨A, 0, none⟩), .pointer (some ⟨B, 0, none⟩), selv l8 (.int .i64 (dotCmp k d)) (.int .i64 0), sel l0 (.pointer (some ⟨mp, 0, none⟩)), sel l1 (.pointer (some ⟨mp, 0, none⟩)), sel l2 (.pointer (some ⟨mp, 0, none⟩)), sel l3 (cmpV), sel l4 (.pointer (some ⟨A, 0, none⟩)), sel l5 (vDot k), sel l6 (vDot d), sel l7 (.int .i64 (dotCmp k d))], defers := [] } ∧ Aside0 (Find1 W0 bm mp A B k v d sl V)
set_option maxHeartbeats 1000000 in
set_option maxRecDepth 100000 in
theorem find1_call (k : Dot) (v : Value) (hv : v.oneCell' = true) (d : Dot) (bm mp : Nat) (sl : Value) (w : World) (hbm : w.heap[bm]? = some (.cells #[.pointer (some ⟨mp, 0, none⟩)] 119 (0, 0))) (hmp : w.heap[mp]? = some (.cells #[cmpV, sl] 141 (0, 0))) :
  Calls Tryd.prog 110 #[vEnt k v, vDot d, .pointer (some ⟨bm, 0, none⟩)] w fun e w' => e = .returned (.int .i64 (dotCmp k d)) ∧ Gr w w' := by
 replace hbm := blk_alloc (blk_alloc hbm (.cells #[.int .i64 k.f0, .int .i64 k.f1, v] 144 (0, 0))) (.cells #[.int .i64 d.f0, .int .i64 d.f1] 35 (0, 0))
 replace hmp := blk_alloc (blk_alloc hmp (.cells #[.int .i64 k.f0, .int .i64 k.f1, v] 144 (0, 0))) (.cells #[.int .i64 d.f0, .int .i64 d.f1] 35 (0, 0))
 have hA : ((w.alloc (.cells #[.int .i64 k.f0, .int .i64 k.f1, v] 144 (0, 0))).alloc (.cells #[.int .i64 d.f0, .int .i64 d.f1] 35 (0, 0))).heap[w.heap.size]? = some (.cells #[.int .i64 k.f0, .int .i64 k.f1, v] 144 (0, 0)) := blk_alloc (blk_new _ _) _
 have hB : ((w.alloc (.cells #[.int .i64 k.f0, .int .i64 k.f1, v] 144 (0, 0))).alloc (.cells #[.int .i64 d.f0, .int .i64 d.f1] 35 (0, 0))).heap[w.heap.size + 1]? = some (.cells #[.int .i64 d.f0, .int .i64 d.f1] 35 (0, 0)) := by have := blk_new (w.alloc (.cells #[.int .i64 k.f0, .int .i64 k.f1, v] 144 (0, 0))) (.cells #[.int .i64 d.f0, .int .i64 d.f1] 35 (0, 0)); rwa [World.size_alloc] at this
 have H1 := Aside0.mk hbm
 have H2 := Aside0.mk hmp
 have H3 := Aside0.mk hA
 have H4 := Aside0.mk hB
 clear hbm hmp hA hB
 go_enter Tryd.func110, Tryd.ntmps110
 go_wp2_with fail
 have hbm := H1.out
 have hmp := H2.out
 have hA := H3.out
 have hB := H4.out
 refine AnyOrder.wp_region (by kernel_rfl) (find1Inv ((w.alloc (.cells #[.int .i64 k.f0, .int .i64 k.f1, v] 144 (0, 0))).alloc (.cells #[.int .i64 d.f0, .int .i64 d.f1] 35 (0, 0))) bm mp w.heap.size (w.heap.size + 1) k v d sl) ?start ?step ?last
 case start => exact ⟨false, false, false, false, false, false, false, false, false, rfl, rfl, ⟨⟨Gr.drew _, hbm, hmp, hA, hB⟩⟩⟩
 case step =>
  rintro L ac V i ⟨l0, l1, l2, l3, l4, l5, l6, l7, l8, rfl, rfl, HF⟩ hi K hK
  have h1 : i = 0 ∨ i = 1 ∨ i = 2 ∨ i = 3 ∨ i = 4 ∨ i = 5 ∨ i = 6 ∨ i = 7 ∨ i = 8 := by
   have h1 := (AnyOrder.mem_ready hi).1
   clear hi hK
   change i < 9 at h1
   omega
  rcases h1 with rfl | rfl | rfl | rfl | rfl | rfl | rfl | rfl | rfl
  ·
   obtain rfl : l0 = false := (AnyOrder.mem_ready hi).2.1
   clear hi
   have cb0 : V.cell? ⟨bm, 0, none⟩ = _ := (blk_cell (HF.out.gr.blk HF.out.box) 0).trans rfl
   refine AnyOrder.wpOp_go rfl (by rfl) ?_
   go_wp2_with fail
   exact ⟨true, l1, l2, l3, l4, l5, l6, l7, l8, rfl, rfl, HF⟩
  ·
   obtain rfl : l1 = false := (AnyOrder.mem_ready hi).2.1
   obtain rfl : l0 = true := AnyOrder.dep (q := 0) hi rfl rfl rfl
   clear hi
   simp only [sel_true, selv_true] at hK ⊢
   refine AnyOrder.wpOp_go rfl (by rfl) ?_
   go_wp2_with fail
   exact ⟨true, true, l2, l3, l4, l5, l6, l7, l8, rfl, rfl, HF⟩
  ·
   obtain rfl : l2 = false := (AnyOrder.mem_ready hi).2.1
   obtain rfl : l1 = true := AnyOrder.dep (q := 0) hi rfl rfl rfl
   clear hi
   simp only [sel_true, selv_true] at hK ⊢
   refine AnyOrder.wpOp_go rfl (by rfl) ?_
   go_wp2_with fail
   exact ⟨l0, true, true, l3, l4, l5, l6, l7, l8, rfl, rfl, HF⟩
  ·
   obtain rfl : l3 = false := (AnyOrder.mem_ready hi).2.1
   obtain rfl : l2 = true := AnyOrder.dep (q := 0) hi rfl rfl rfl
   clear hi
   simp only [sel_true, selv_true] at hK ⊢
   have cm0 : V.cell? ⟨mp, 0, none⟩ = _ := (blk_cell (HF.out.gr.blk HF.out.map) 0).trans rfl
   refine AnyOrder.wpOp_go rfl (by rfl) ?_
   go_wp2_with fail
   exact ⟨l0, l1, true, true, l4, l5, l6, l7, l8, rfl, rfl, HF⟩
  ·
   obtain rfl : l4 = false := (AnyOrder.mem_ready hi).2.1
   clear hi
   refine AnyOrder.wpOp_go rfl (by rfl) ?_
   go_wp2_with fail
   exact ⟨l0, l1, l2, l3, true, l5, l6, l7, l8, rfl, rfl, HF⟩
  ·
   obtain rfl : l5 = false := (AnyOrder.mem_ready hi).2.1
   obtain rfl : l4 = true := AnyOrder.dep (q := 0) hi rfl rfl rfl
   clear hi
   simp only [sel_true, selv_true] at hK ⊢
   have ce0 : V.cell? ⟨w.heap.size, 0, none⟩ = _ := (blk_cell (HF.out.gr.blk HF.out.ent) 0).trans rfl
   have ce1 : V.cell? ⟨w.heap.size, 1, none⟩ = _ := (blk_cell (HF.out.gr.blk HF.out.ent) 1).trans rfl
   refine AnyOrder.wpOp_go rfl (by rfl) ?_
   go_wp2_with fail
   exact ⟨l0, l1, l2, l3, true, true, l6, l7, l8, rfl, rfl, HF⟩
  ·
   obtain rfl : l6 = false := (AnyOrder.mem_ready hi).2.1
   clear hi
   have ck0 : V.cell? ⟨w.heap.size + 1, 0, none⟩ = _ := (blk_cell (HF.out.gr.blk HF.out.key) 0).trans rfl
   have ck1 : V.cell? ⟨w.heap.size + 1, 1, none⟩ = _ := (blk_cell (HF.out.gr.blk HF.out.key) 1).trans rfl
   refine AnyOrder.wpOp_go rfl (by rfl) ?_
   go_wp2_with fail
   exact ⟨l0, l1, l2, l3, l4, l5, true, l7, l8, rfl, rfl, HF⟩
  ·
   obtain rfl : l7 = false := (AnyOrder.mem_ready hi).2.1
   obtain rfl : l3 = true := AnyOrder.dep (q := 0) hi rfl rfl rfl
   obtain rfl : l5 = true := AnyOrder.dep (q := 1) hi rfl rfl rfl
   obtain rfl : l6 = true := AnyOrder.dep (q := 2) hi rfl rfl rfl
   clear hi
   simp only [sel_true, selv_true] at hK ⊢
   refine AnyOrder.wpOp_go rfl (by rfl) ?_
   go_wp2_with fail
   refine (dotCmp_call k d V).mono ?_
   rintro e V' ⟨rfl, hb⟩
   exact hK _ _ ⟨l0, l1, l2, true, l4, true, true, true, l8, rfl, rfl, ⟨⟨HF.out.gr.trans hb, HF.out.box, HF.out.map, HF.out.ent, HF.out.key⟩⟩⟩
  ·
   obtain rfl : l8 = false := (AnyOrder.mem_ready hi).2.1
   obtain rfl : l7 = true := AnyOrder.dep (q := 0) hi rfl rfl rfl
   obtain rfl : l0 = true := AnyOrder.dep (q := 2) hi rfl rfl rfl
   obtain rfl : l1 = true := AnyOrder.dep (q := 3) hi rfl rfl rfl
   obtain rfl : l2 = true := AnyOrder.dep (q := 4) hi rfl rfl rfl
   obtain rfl : l3 = true := AnyOrder.dep (q := 5) hi rfl rfl rfl
   obtain rfl : l4 = true := AnyOrder.dep (q := 6) hi rfl rfl rfl
   obtain rfl : l5 = true := AnyOrder.dep (q := 7) hi rfl rfl rfl
   obtain rfl : l6 = true := AnyOrder.dep (q := 8) hi rfl rfl rfl
   clear hi
   simp only [sel_true, selv_true] at hK ⊢
   refine AnyOrder.wpOp_go rfl (by rfl) ?_
   go_wp2_with fail
   exact ⟨true, true, true, true, true, true, true, true, true, rfl, rfl, HF⟩
 case last =>
  rintro L ac V ⟨l0, l1, l2, l3, l4, l5, l6, l7, l8, rfl, rfl, HF⟩ hr
  have hall := AnyOrder.all_listed rfl (by kernel_rfl) hr
  clear hr
  obtain rfl : l0 = true := hall 0 (by decide)
  obtain rfl : l1 = true := hall 1 (by decide)
  obtain rfl : l2 = true := hall 2 (by decide)
  obtain rfl : l3 = true := hall 3 (by decide)
  obtain rfl : l4 = true := hall 4 (by decide)
  obtain rfl : l5 = true := hall 5 (by decide)
  obtain rfl : l6 = true := hall 6 (by decide)
  obtain rfl : l7 = true := hall 7 (by decide)
  obtain rfl : l8 = true := hall 8 (by decide)
  clear hall
  simp only [sel_true, selv_true]
  go_wp2
  go_ret
  exact ⟨rfl, ((Gr.alloc w _).trans (Gr.alloc _ _)).trans HF.out.gr⟩
structure Ents (W : World) (A : Option Addr) (n : Nat) (ks : List Dot) (vs : List Value) : Prop where
 kl : ks.length = n
 vl : vs.length = n
 small : n ≤ 1000000
 one : ∀ v ∈ vs, v.oneCell' = true
 row : ∀ i k v, ks[i]? = some k → vs[i]? = some v → ∃ eb, A = some ⟨eb, 0, none⟩ ∧ W.cell? ⟨eb, i * 3, none⟩ = some (.int .i64 k.f0) ∧ W.cell? ⟨eb, i * 3 + 1, none⟩ = some (.int .i64 k.f1) ∧ W.cell? ⟨eb, i * 3 + 2, none⟩ = some v
theorem Ents.below {W V : World} {A : Option Addr} {n : Nat} {ks : List Dot} {vs : List Value} (h : Ents W A n ks vs) (hb : Below W.heap.size W V) : Ents V A n ks vs :=
 ⟨h.kl, h.vl, h.small, h.one, fun i k v hk hv => by
  obtain ⟨eb, e, h0, h1, h2⟩ := h.row i k v hk hv
  exact ⟨eb, e, pw_cell_below hb h0, pw_cell_below hb h1, pw_cell_below hb h2⟩⟩
theorem Ents.get {W : World} {A : Option Addr} {n : Nat} {ks : List Dot} {vs : List Value} (h : Ents W A n ks vs) {i : Nat} (hi : i < n) : ∃ k v eb, ks[i]? = some k ∧ vs[i]? = some v ∧ v.oneCell' = true ∧ A = some ⟨eb, 0, none⟩ ∧ W.cell? ⟨eb, i * 3, none⟩ = some (.int .i64 k.f0) ∧ W.cell? ⟨eb, i * 3 + 1, none⟩ = some (.int .i64 k.f1) ∧ W.cell? ⟨eb, i * 3 + 2, none⟩ = some v := by
 have h1 : i < ks.length := by rw [h.kl]; exact hi
 have h2 : i < vs.length := by rw [h.vl]; exact hi
 obtain ⟨eb, e, c0, c1, c2⟩ := h.row i _ _ (List.getElem?_eq_getElem h1) (List.getElem?_eq_getElem h2)
 exact ⟨_, _, eb, List.getElem?_eq_getElem h1, List.getElem?_eq_getElem h2, h.one _ (List.getElem_mem h2), e, c0, c1, c2⟩
/-- How many keys come before a dot, and whether it is there. -/
def posK (ks : List Dot) (d : Dot) : Nat := (ks.takeWhile fun k => dotLt k d).length
def hasK (ks : List Dot) (d : Dot) : Bool := decide (ks[posK ks d]? = some d)
theorem posK_le (ks : List Dot) (d : Dot) : posK ks d ≤ ks.length := (List.takeWhile_sublist _).length_le
theorem incB_tail {k : Dot} {ks : List Dot} (h : incB (k :: ks) = true) : incB ks = true ∧ ∀ x ∈ ks, dotLt k x = true := by
 induction ks generalizing k with
 | nil => exact ⟨rfl, fun x hx => by cases hx⟩
 | cons y ks ih =>
  simp only [incB, Bool.and_eq_true] at h
  refine ⟨h.2, fun x hx => ?_⟩
  rcases List.mem_cons.1 hx with rfl | hx
  ·
   exact h.1
  ·
   exact dotLt_trans h.1 ((ih h.2).2 x hx)
theorem posK_iff {ks : List Dot} (h : incB ks = true) (d : Dot) : ∀ {i : Nat} {k : Dot}, ks[i]? = some k → (dotLt k d = true ↔ i < posK ks d) := by
 induction ks with
 | nil => intro i k hk; simp at hk
 | cons y ks ih =>
  intro i k hk
  obtain ⟨h1, h2⟩ := incB_tail h
  unfold posK
  rw [List.takeWhile_cons]
  by_cases hy : dotLt y d = true
  ·
   rw [if_pos hy]
   cases i with
   | zero => simp at hk; subst hk; simp [hy]
   | succ i =>
    have := ih h1 (i := i) (k := k) (by simpa using hk)
    rw [this]; simp [posK]
  ·
   rw [if_neg hy]
   cases i with
   | zero => simp at hk; subst hk; simp [hy]
   | succ i =>
    have hm : k ∈ ks := List.mem_of_getElem? (by simpa using hk)
    have : ¬ dotLt k d = true := fun e => hy (dotLt_trans (h2 k hm) e)
    simp [this]
theorem dotCmp_lt (a b : Dot) : decide (dotCmp a b < 0) = dotLt a b := by
 unfold dotCmp
 cases dotLt a b <;> simp
 cases dotLt b a <;> simp
theorem dotCmp_eq (a b : Dot) : (dotCmp a b == 0) = decide (a = b) := by
 unfold dotCmp
 cases h : dotLt a b with
 | true =>
  have : a ≠ b := fun e => by subst e; rw [dotLt_irrefl] at h; cases h
  simp [this]
 | false =>
  cases k : dotLt b a with
  | true =>
   have : a ≠ b := fun e => by subst e; rw [dotLt_irrefl] at k; cases k
   simp [this]
  | false => simp [dotLt_total h k]
structure Bs (w : World) (d : Dot) (V : World) : Prop where
 below : Below w.heap.size w V
 box : V.heap[w.heap.size]? = some (.cells #[.int .i64 d.f0, .int .i64 d.f1] 35 (0, 0))
theorem Bs.more {w V V' : World} {d : Dot} (h : Bs w d V) (hb : Below V.heap.size V V') : Bs w d V' := ⟨below_more h.below hb, blk_keep h.box hb⟩
theorem Bs.drew {w V : World} {d : Dot} (h : Bs w d V) : Bs w d V.drew := h.more (Gr.drew V).below
def bsrInv (w : World) (B bm eb n c : Nat) (d : Dot) (i j h : Nat) (k : Dot) (v : Value) (z12 z13 z14 z15 z16 z17 z18 z19 z20 z21 z22 z23 u24 u25 u26 u27 u28 u29 u30 u31 u32 u33 u34 : Value) (L : Array Bool) (ac : Act) (V : World) : Prop := ∃ (l0 l1 l2 l3 l4 l5 l6 l7 : Bool), L = #[l0, l1, l2, l3, l4, l5, l6, l7] ∧ ac = { tmps := #[.slice (some ⟨eb, 0, none⟩) n c, vDot d, .func (.func 110) #[] #[.pointer (some ⟨bm, 0, none⟩)], undef, .pointer (some ⟨B, 0, none⟩), undef, .int .i64 0, .bool false, .int .i64 n, .int .i64 i, .int .i64 j, .int .i64 h, z12, z13, z14, z15, z16, z17, z18, z19, z20, z21, z22, z23, selv l0 (.func (.func 110) #[] #[.pointer (some ⟨bm, 0, none⟩)]) (u24), selv l1 (.slice (some ⟨eb, 0, none⟩) n c) (u25), selv l2 (.int .i64 h) (u26), selv l3 (.pointer (some ⟨eb, h * 3, none⟩)) (u27), selv l4 (vEnt k v) (u28), selv l5 (vDot d) (u29), selv l6 (.int .i64 (dotCmp k d)) (u30), selv l7 (.bool (decide (dotCmp k d < 0))) (u31), u32, u33, u34, undef, undef, undef, undef, undef, undef, undef, undef, undef, undef, undef, undef, undef, undef], defers := [] } ∧ Aside0 (Bs w d V)
def bstInv (w : World) (B bm eb n c : Nat) (d : Dot) (q : Nat) (k : Dot) (v : Value) (y11 y12 y13 y14 y15 y16 y17 y18 y19 y20 y21 y22 y23 y24 y25 y26 y27 y28 y29 y30 y31 y32 y33 y34 : Value) (L : Array Bool) (ac : Act) (V : World) : Prop := ∃ (l0 l1 l2 l3 l4 l5 l6 l7 l8 l9 l10 l11 l12 l13 l14 l15 : Bool), L = #[l0, l1, l2, l3, l4, l5, l6, l7, l8, l9, l10, l11, l12, l13, l14, l15] ∧ ac = { tmps := #[.slice (some ⟨eb, 0, none⟩) n c, vDot d, .func (.func 110) #[] #[.pointer (some ⟨bm, 0, none⟩)], undef, .pointer (some ⟨B, 0, none⟩), undef, selv l14 (.int .i64 q) (.int .i64 0), selv l15 (.bool (dotCmp k d == 0)) (.bool false), .int .i64 n, .int .i64 q, .int .i64 q, y11, y12, y13, y14, y15, y16, y17, y18, y19, y20, y21, y22, y23, y24, y25, y26, y27, y28, y29, y30, y31, y32, y33, y34, sel l0 (.int .i64 q), sel l1 (.int .i64 q), sel l2 (.int .i64 n), sel l3 (.bool true), sel l4 (.bool true), sel l5 (.func (.func 110) #[] #[.pointer (some ⟨bm, 0, none⟩)]), sel l6 (.slice (some ⟨eb, 0, none⟩) n c), sel l7 (.int .i64 q), sel l8 (.pointer (some ⟨eb, q * 3, none⟩)), sel l9 (vEnt k v), sel l10 (vDot d), sel l11 (.int .i64 (dotCmp k d)), sel l12 (.bool (dotCmp k d == 0)), sel l13 (.bool (dotCmp k d == 0))], defers := [] } ∧ Aside0 (Bs w d V)
def bsfInv (w : World) (A : Option Addr) (B bm n c : Nat) (d : Dot) (y11 y12 y13 y14 y15 y16 y17 y18 y19 y20 y21 y22 y23 y24 y25 y26 y27 y28 y29 y30 y31 y32 y33 y34 : Value) (L : Array Bool) (ac : Act) (V : World) : Prop := ∃ (l0 l1 l2 l3 l4 l5 l6 l7 l8 l9 l10 l11 l12 l13 l14 l15 : Bool), L = #[l0, l1, l2, l3, l4, l5, l6, l7, l8, l9, l10, l11, l12, l13, l14, l15] ∧ ac = { tmps := #[.slice A n c, vDot d, .func (.func 110) #[] #[.pointer (some ⟨bm, 0, none⟩)], undef, .pointer (some ⟨B, 0, none⟩), undef, selv l14 (.int .i64 n) (.int .i64 0), selv l15 (.bool false) (.bool false), .int .i64 n, .int .i64 n, .int .i64 n, y11, y12, y13, y14, y15, y16, y17, y18, y19, y20, y21, y22, y23, y24, y25, y26, y27, y28, y29, y30, y31, y32, y33, y34, sel l0 (.int .i64 n), sel l1 (.int .i64 n), sel l2 (.int .i64 n), sel l3 (.bool false), sel l4 (.bool false), sel l5 (undef), sel l6 (undef), sel l7 (undef), sel l8 (undef), sel l9 (undef), sel l10 (undef), sel l11 (undef), sel l12 (undef), sel l13 (.bool false)], defers := [] } ∧ Aside0 (Bs w d V)
set_option maxHeartbeats 2000000 in
set_option maxRecDepth 100000 in
theorem bsearch_call (ks : List Dot) (vs : List Value) (A : Option Addr) (n c : Nat) (d : Dot) (bm mp : Nat) (sl : Value) (w : World) (hs : incB ks = true) (he : Ents w A n ks vs) (hbm : w.heap[bm]? = some (.cells #[.pointer (some ⟨mp, 0, none⟩)] 119 (0, 0))) (hmp : w.heap[mp]? = some (.cells #[cmpV, sl] 141 (0, 0))) :
  Calls Tryd.prog 109 #[.slice A n c, vDot d, .func (.func 110) #[] #[.pointer (some ⟨bm, 0, none⟩)]] w fun e w' => e = .returned (.tuple #[.int .i64 (posK ks d), .bool (hasK ks d)]) ∧ Below w.heap.size w w' := by
 have HE := Aside0.mk he
 have HBM := Aside0.mk hbm
 have HMP := Aside0.mk hmp
 have HS := Aside0.mk hs
 have hn := he.small
 have HQN : Aside0 (posK ks d ≤ n) := ⟨by rw [← he.kl]; exact posK_le ks d⟩
 clear he hbm hmp hs
 obtain ⟨q, HQ⟩ : ∃ q, Aside0 (posK ks d = q) := ⟨_, ⟨rfl⟩⟩
 obtain ⟨hf, HHF⟩ : ∃ hf, Aside0 (hasK ks d = hf) := ⟨_, ⟨rfl⟩⟩
 rw [HQ.out, HHF.out]
 rw [HQ.out] at HQN
 have HB0 : Aside0 (Bs w d (w.alloc (.cells #[.int .i64 d.f0, .int .i64 d.f1] 35 (0, 0)))) := ⟨(Gr.alloc w _).below, blk_new _ _⟩
 go_enter Tryd.func109, Tryd.ntmps109
 go_wp2
 go_loopw [9, 10] (fun i j wr => ∃ i' j' : Nat, i' ≤ q ∧ q ≤ j' ∧ j' ≤ n ∧ i = .int .i64 i' ∧ j = .int .i64 j' ∧ Aside0 (Bs w d wr)) (fun i j _ => (intOf j - intOf i).toNat)
 case atStart => exact ⟨0, n, Nat.zero_le _, HQN.out, Nat.le_refl _, rfl, rfl, HB0⟩
 case round =>
  obtain ⟨i, j, hi, hj, hjn, rfl, rfl, HB⟩ := hrel
  clear HB0
  by_cases hlt : i < j
  ·
   have hlb : decide ((i : Int) < (j : Int)) = true := decide_eq_true (by omega)
   obtain ⟨h, Hh⟩ : ∃ h : Nat, h = (i + j) / 2 := ⟨_, rfl⟩
   have hm : ((i : Int) + (j : Int)) / 2 = (h : Int) := by omega
   have HH : Aside0 (h < n) := ⟨by omega⟩
   have HIJ : Aside0 (i ≤ h ∧ h < j) := ⟨by omega⟩
   clear Hh
   obtain ⟨k, v, eb, hk, hvk, hv1, rfl, c0, c1, c2⟩ := HE.out.get HH.out
   have HC := Aside0.mk (And.intro c0 (And.intro c1 c2))
   have HV := Aside0.mk hv1
   have HL : Aside0 (dotLt k d = true ↔ h < q) := ⟨by rw [← HQ.out]; exact posK_iff HS.out d hk⟩
   clear c0 c1 c2 hk hvk hv1
   go_wp2_with fail
   refine AnyOrder.wp_region (by kernel_rfl) (bsrInv w w.heap.size bm eb n c d i j h k v (.slice (some ⟨eb, 0, none⟩) n c) (.int .i64 n) (.int .i64 n) (.int .i64 i) (.int .i64 j) (.bool true) (.int .i64 i) (.int .i64 j) (.int .i64 ((i : Int) + (j : Int))) (.int .u64 ((i : Int) + (j : Int))) (.int .u64 h) (.int .i64 h) u24 u25 u26 u27 u28 u29 u30 u31 u32 u33 u34) ?start ?step ?last
   case start => exact ⟨false, false, false, false, false, false, false, false, rfl, rfl, ⟨HB.out.drew⟩⟩
   case step =>
    rintro L ac V i ⟨l0, l1, l2, l3, l4, l5, l6, l7, rfl, rfl, HF⟩ hi K hK
    have h1 : i = 0 ∨ i = 1 ∨ i = 2 ∨ i = 3 ∨ i = 4 ∨ i = 5 ∨ i = 6 ∨ i = 7 := by
     have h1 := (AnyOrder.mem_ready hi).1
     clear hi hK
     change i < 8 at h1
     omega
    rcases h1 with rfl | rfl | rfl | rfl | rfl | rfl | rfl | rfl
    ·
     obtain rfl : l0 = false := (AnyOrder.mem_ready hi).2.1
     clear hi
     refine AnyOrder.wpOp_go rfl (by rfl) ?_
     go_wp2_with fail
     exact ⟨true, l1, l2, l3, l4, l5, l6, l7, rfl, rfl, HF⟩
    ·
     obtain rfl : l1 = false := (AnyOrder.mem_ready hi).2.1
     clear hi
     refine AnyOrder.wpOp_go rfl (by rfl) ?_
     go_wp2_with fail
     exact ⟨l0, true, l2, l3, l4, l5, l6, l7, rfl, rfl, HF⟩
    ·
     obtain rfl : l2 = false := (AnyOrder.mem_ready hi).2.1
     clear hi
     refine AnyOrder.wpOp_go rfl (by rfl) ?_
     go_wp2_with fail
     exact ⟨l0, l1, true, l3, l4, l5, l6, l7, rfl, rfl, HF⟩
    ·
     obtain rfl : l3 = false := (AnyOrder.mem_ready hi).2.1
     obtain rfl : l1 = true := AnyOrder.dep (q := 0) hi rfl rfl rfl
     obtain rfl : l2 = true := AnyOrder.dep (q := 1) hi rfl rfl rfl
     clear hi
     simp only [sel_true, selv_true] at hK ⊢
     have hh := HH.out
     refine AnyOrder.wpOp_go rfl (by rfl) ?_
     go_wp2_with fail
     exact ⟨l0, true, true, true, l4, l5, l6, l7, rfl, rfl, HF⟩
    ·
     obtain rfl : l4 = false := (AnyOrder.mem_ready hi).2.1
     obtain rfl : l3 = true := AnyOrder.dep (q := 0) hi rfl rfl rfl
     clear hi
     simp only [sel_true, selv_true] at hK ⊢
     obtain ⟨q0, q1, q2⟩ := HC.out
     have e0 : V.cell? ⟨eb, h * 3, none⟩ = _ := pw_cell_below HF.out.below q0
     have e1 : V.cell? ⟨eb, h * 3 + 1, none⟩ = _ := pw_cell_below HF.out.below q1
     have e2 : V.cell? ⟨eb, h * 3 + 2, none⟩ = _ := pw_cell_below HF.out.below q2
     have hv := HV.out
     clear q0 q1 q2
     refine AnyOrder.wpOp_go rfl (by rfl) ?_
     go_wp2_with fail
     exact ⟨l0, l1, l2, true, true, l5, l6, l7, rfl, rfl, HF⟩
    ·
     obtain rfl : l5 = false := (AnyOrder.mem_ready hi).2.1
     clear hi
     have d0 : V.cell? ⟨w.heap.size, 0, none⟩ = _ := (blk_cell HF.out.box 0).trans rfl
     have d1 : V.cell? ⟨w.heap.size, 1, none⟩ = _ := (blk_cell HF.out.box 1).trans rfl
     refine AnyOrder.wpOp_go rfl (by rfl) ?_
     go_wp2_with fail
     exact ⟨l0, l1, l2, l3, l4, true, l6, l7, rfl, rfl, HF⟩
    ·
     obtain rfl : l6 = false := (AnyOrder.mem_ready hi).2.1
     obtain rfl : l0 = true := AnyOrder.dep (q := 0) hi rfl rfl rfl
     obtain rfl : l4 = true := AnyOrder.dep (q := 1) hi rfl rfl rfl
     obtain rfl : l5 = true := AnyOrder.dep (q := 2) hi rfl rfl rfl
     clear hi
     simp only [sel_true, selv_true] at hK ⊢
     refine AnyOrder.wpOp_go rfl (by rfl) ?_
     go_wp2_with fail
     refine (find1_call k v HV.out d bm mp sl V (blk_keep HBM.out HF.out.below) (blk_keep HMP.out HF.out.below)).mono ?_
     rintro e V' ⟨rfl, hb⟩
     exact hK _ _ ⟨true, l1, l2, l3, true, true, true, l7, rfl, rfl, ⟨HF.out.more hb.below⟩⟩
    ·
     obtain rfl : l7 = false := (AnyOrder.mem_ready hi).2.1
     obtain rfl : l6 = true := AnyOrder.dep (q := 0) hi rfl rfl rfl
     clear hi
     simp only [sel_true, selv_true] at hK ⊢
     refine AnyOrder.wpOp_go rfl (by rfl) ?_
     go_wp2_with fail
     exact ⟨l0, l1, l2, l3, l4, l5, true, true, rfl, rfl, HF⟩
   case last =>
    rintro L ac V ⟨l0, l1, l2, l3, l4, l5, l6, l7, rfl, rfl, HF⟩ hr
    have hall := AnyOrder.all_listed rfl (by kernel_rfl) hr
    clear hr
    obtain rfl : l0 = true := hall 0 (by decide)
    obtain rfl : l1 = true := hall 1 (by decide)
    obtain rfl : l2 = true := hall 2 (by decide)
    obtain rfl : l3 = true := hall 3 (by decide)
    obtain rfl : l4 = true := hall 4 (by decide)
    obtain rfl : l5 = true := hall 5 (by decide)
    obtain rfl : l6 = true := hall 6 (by decide)
    obtain rfl : l7 = true := hall 7 (by decide)
    clear hall
    simp only [sel_true, selv_true]
    clear hm
    rw [dotCmp_lt]
    cases hd : dotLt k d with
    | true =>
     have hw1 : wrap64 ((h : Int) + 1) = ((h + 1 : Nat) : Int) := by unfold wrap64; have := HH.out; omega
     have h2 := HL.out.1 hd
     have HIJ2 := HIJ.out
     clear hd
     go_wp2_with fail
     refine ⟨⟨h + 1, j, by omega, hj, hjn, by (first | rfl | (rw [hw1])), rfl, HF⟩, ?_⟩
     simp [intOf]; omega
    | false =>
     have h2 : ¬ h < q := fun e => by have := HL.out.2 e; rw [hd] at this; cases this
     have HIJ2 := HIJ.out
     clear hd
     go_wp2_with fail
     refine ⟨⟨i, h, hi, by omega, by omega, rfl, rfl, HF⟩, ?_⟩
     simp [intOf]; omega
  ·
   obtain rfl : q = i := by omega
   obtain rfl : q = j := by omega
   have hlb : decide ((q : Int) < (q : Int)) = false := decide_eq_false (by omega)
   by_cases hq : q < n
   ·
    have HH := Aside0.mk hq
    obtain ⟨k, v, eb, hk, hvk, hv1, rfl, c0, c1, c2⟩ := HE.out.get HH.out
    have HC := Aside0.mk (And.intro c0 (And.intro c1 c2))
    have HV := Aside0.mk hv1
    have HR : Aside0 (hf = (dotCmp k d == 0)) := ⟨by rw [← HHF.out, hasK, HQ.out, hk, dotCmp_eq]; simp⟩
    clear c0 c1 c2 hk hvk hv1
    go_wp2_with fail
    refine AnyOrder.wp_region (by kernel_rfl) (bstInv w w.heap.size bm eb n c d q k v u11 (.slice (some ⟨eb, 0, none⟩) n c) (.int .i64 n) (.int .i64 n) (.int .i64 q) (.int .i64 q) (.bool false) u18 u19 u20 u21 u22 u23 u24 u25 u26 u27 u28 u29 u30 u31 u32 u33 u34) ?start ?step ?last
    case start => exact ⟨false, false, false, false, false, false, false, false, false, false, false, false, false, false, false, false, rfl, rfl, ⟨HB.out.drew⟩⟩
    case step =>
     rintro L ac V i ⟨l0, l1, l2, l3, l4, l5, l6, l7, l8, l9, l10, l11, l12, l13, l14, l15, rfl, rfl, HF⟩ hi K hK
     have h1 : i = 0 ∨ i = 1 ∨ i = 2 ∨ i = 3 ∨ i = 4 ∨ i = 5 ∨ i = 6 ∨ i = 7 ∨ i = 8 ∨ i = 9 ∨ i = 10 ∨ i = 11 ∨ i = 12 ∨ i = 13 ∨ i = 14 ∨ i = 15 := by
      have h1 := (AnyOrder.mem_ready hi).1
      clear hi hK
      change i < 16 at h1
      omega
     rcases h1 with rfl | rfl | rfl | rfl | rfl | rfl | rfl | rfl | rfl | rfl | rfl | rfl | rfl | rfl | rfl | rfl
     ·
      obtain rfl : l0 = false := (AnyOrder.mem_ready hi).2.1
      clear hi
      refine AnyOrder.wpOp_go rfl (by rfl) ?_
      go_wp2_with fail
      exact ⟨true, l1, l2, l3, l4, l5, l6, l7, l8, l9, l10, l11, l12, l13, l14, l15, rfl, rfl, HF⟩
     ·
      obtain rfl : l1 = false := (AnyOrder.mem_ready hi).2.1
      clear hi
      refine AnyOrder.wpOp_go rfl (by rfl) ?_
      go_wp2_with fail
      exact ⟨l0, true, l2, l3, l4, l5, l6, l7, l8, l9, l10, l11, l12, l13, l14, l15, rfl, rfl, HF⟩
     ·
      obtain rfl : l2 = false := (AnyOrder.mem_ready hi).2.1
      clear hi
      refine AnyOrder.wpOp_go rfl (by rfl) ?_
      go_wp2_with fail
      exact ⟨l0, l1, true, l3, l4, l5, l6, l7, l8, l9, l10, l11, l12, l13, l14, l15, rfl, rfl, HF⟩
     ·
      obtain rfl : l3 = false := (AnyOrder.mem_ready hi).2.1
      obtain rfl : l1 = true := AnyOrder.dep (q := 0) hi rfl rfl rfl
      obtain rfl : l2 = true := AnyOrder.dep (q := 1) hi rfl rfl rfl
      clear hi
      simp only [sel_true, selv_true] at hK ⊢
      have hh : decide ((q : Int) < (n : Int)) = true := decide_eq_true (by have := HH.out; omega)
      refine AnyOrder.wpOp_go rfl (by rfl) ?_
      go_wp2_with fail
      exact ⟨l0, true, true, true, l4, l5, l6, l7, l8, l9, l10, l11, l12, l13, l14, l15, rfl, rfl, HF⟩
     ·
      obtain rfl : l4 = false := (AnyOrder.mem_ready hi).2.1
      obtain rfl : l3 = true := AnyOrder.dep (q := 0) hi rfl rfl rfl
      clear hi
      simp only [sel_true, selv_true] at hK ⊢
      refine AnyOrder.wpOp_go rfl (by rfl) ?_
      go_wp2_with fail
      exact ⟨l0, l1, l2, true, true, l5, l6, l7, l8, l9, l10, l11, l12, l13, l14, l15, rfl, rfl, HF⟩
     ·
      obtain rfl : l5 = false := (AnyOrder.mem_ready hi).2.1
      obtain rfl : l4 = true := AnyOrder.dep (q := 0) hi rfl rfl rfl
      clear hi
      simp only [sel_true, selv_true] at hK ⊢
      refine AnyOrder.wpOp_go rfl (by rfl) ?_
      go_wp2_with fail
      exact ⟨l0, l1, l2, l3, true, true, l6, l7, l8, l9, l10, l11, l12, l13, l14, l15, rfl, rfl, HF⟩
     ·
      obtain rfl : l6 = false := (AnyOrder.mem_ready hi).2.1
      obtain rfl : l4 = true := AnyOrder.dep (q := 0) hi rfl rfl rfl
      clear hi
      simp only [sel_true, selv_true] at hK ⊢
      refine AnyOrder.wpOp_go rfl (by rfl) ?_
      go_wp2_with fail
      exact ⟨l0, l1, l2, l3, true, l5, true, l7, l8, l9, l10, l11, l12, l13, l14, l15, rfl, rfl, HF⟩
     ·
      obtain rfl : l7 = false := (AnyOrder.mem_ready hi).2.1
      obtain rfl : l4 = true := AnyOrder.dep (q := 0) hi rfl rfl rfl
      clear hi
      simp only [sel_true, selv_true] at hK ⊢
      refine AnyOrder.wpOp_go rfl (by rfl) ?_
      go_wp2_with fail
      exact ⟨l0, l1, l2, l3, true, l5, l6, true, l8, l9, l10, l11, l12, l13, l14, l15, rfl, rfl, HF⟩
     ·
      obtain rfl : l8 = false := (AnyOrder.mem_ready hi).2.1
      obtain rfl : l6 = true := AnyOrder.dep (q := 0) hi rfl rfl rfl
      obtain rfl : l7 = true := AnyOrder.dep (q := 1) hi rfl rfl rfl
      obtain rfl : l4 = true := AnyOrder.dep (q := 2) hi rfl rfl rfl
      clear hi
      simp only [sel_true, selv_true] at hK ⊢
      have hh := HH.out
      refine AnyOrder.wpOp_go rfl (by rfl) ?_
      go_wp2_with fail
      exact ⟨l0, l1, l2, l3, true, l5, true, true, true, l9, l10, l11, l12, l13, l14, l15, rfl, rfl, HF⟩
     ·
      obtain rfl : l9 = false := (AnyOrder.mem_ready hi).2.1
      obtain rfl : l8 = true := AnyOrder.dep (q := 0) hi rfl rfl rfl
      obtain rfl : l4 = true := AnyOrder.dep (q := 1) hi rfl rfl rfl
      clear hi
      simp only [sel_true, selv_true] at hK ⊢
      obtain ⟨q0, q1, q2⟩ := HC.out
      have e0 : V.cell? ⟨eb, q * 3, none⟩ = _ := pw_cell_below HF.out.below q0
      have e1 : V.cell? ⟨eb, q * 3 + 1, none⟩ = _ := pw_cell_below HF.out.below q1
      have e2 : V.cell? ⟨eb, q * 3 + 2, none⟩ = _ := pw_cell_below HF.out.below q2
      have hv := HV.out
      clear q0 q1 q2
      refine AnyOrder.wpOp_go rfl (by rfl) ?_
      go_wp2_with fail
      exact ⟨l0, l1, l2, l3, true, l5, l6, l7, true, true, l10, l11, l12, l13, l14, l15, rfl, rfl, HF⟩
     ·
      obtain rfl : l10 = false := (AnyOrder.mem_ready hi).2.1
      obtain rfl : l4 = true := AnyOrder.dep (q := 0) hi rfl rfl rfl
      clear hi
      simp only [sel_true, selv_true] at hK ⊢
      have d0 : V.cell? ⟨w.heap.size, 0, none⟩ = _ := (blk_cell HF.out.box 0).trans rfl
      have d1 : V.cell? ⟨w.heap.size, 1, none⟩ = _ := (blk_cell HF.out.box 1).trans rfl
      refine AnyOrder.wpOp_go rfl (by rfl) ?_
      go_wp2_with fail
      exact ⟨l0, l1, l2, l3, true, l5, l6, l7, l8, l9, true, l11, l12, l13, l14, l15, rfl, rfl, HF⟩
     ·
      obtain rfl : l11 = false := (AnyOrder.mem_ready hi).2.1
      obtain rfl : l5 = true := AnyOrder.dep (q := 0) hi rfl rfl rfl
      obtain rfl : l9 = true := AnyOrder.dep (q := 1) hi rfl rfl rfl
      obtain rfl : l10 = true := AnyOrder.dep (q := 2) hi rfl rfl rfl
      obtain rfl : l4 = true := AnyOrder.dep (q := 3) hi rfl rfl rfl
      clear hi
      simp only [sel_true, selv_true] at hK ⊢
      refine AnyOrder.wpOp_go rfl (by rfl) ?_
      go_wp2_with fail
      refine (find1_call k v HV.out d bm mp sl V (blk_keep HBM.out HF.out.below) (blk_keep HMP.out HF.out.below)).mono ?_
      rintro e V' ⟨rfl, hb⟩
      exact hK _ _ ⟨l0, l1, l2, l3, true, true, l6, l7, l8, true, true, true, l12, l13, l14, l15, rfl, rfl, ⟨HF.out.more hb.below⟩⟩
     ·
      obtain rfl : l12 = false := (AnyOrder.mem_ready hi).2.1
      obtain rfl : l11 = true := AnyOrder.dep (q := 0) hi rfl rfl rfl
      obtain rfl : l4 = true := AnyOrder.dep (q := 1) hi rfl rfl rfl
      clear hi
      simp only [sel_true, selv_true] at hK ⊢
      refine AnyOrder.wpOp_go rfl (by rfl) ?_
      go_wp2_with fail
      exact ⟨l0, l1, l2, l3, true, l5, l6, l7, l8, l9, l10, true, true, l13, l14, l15, rfl, rfl, HF⟩
     ·
      obtain rfl : l13 = false := (AnyOrder.mem_ready hi).2.1
      obtain rfl : l4 = true := AnyOrder.dep (q := 0) hi rfl rfl rfl
      obtain rfl : l12 = true := AnyOrder.dep (q := 1) hi rfl rfl rfl
      clear hi
      simp only [sel_true, selv_true] at hK ⊢
      refine AnyOrder.wpOp_go rfl (by rfl) ?_
      go_wp2_with fail
      exact ⟨l0, l1, l2, l3, true, l5, l6, l7, l8, l9, l10, l11, true, true, l14, l15, rfl, rfl, HF⟩
     ·
      obtain rfl : l14 = false := (AnyOrder.mem_ready hi).2.1
      obtain rfl : l0 = true := AnyOrder.dep (q := 0) hi rfl rfl rfl
      obtain rfl : l11 = true := AnyOrder.dep (q := 1) hi rfl rfl rfl
      clear hi
      simp only [sel_true, selv_true] at hK ⊢
      refine AnyOrder.wpOp_go rfl (by rfl) ?_
      go_wp2_with fail
      exact ⟨true, l1, l2, l3, l4, l5, l6, l7, l8, l9, l10, true, l12, l13, true, l15, rfl, rfl, HF⟩
     ·
      obtain rfl : l15 = false := (AnyOrder.mem_ready hi).2.1
      obtain rfl : l13 = true := AnyOrder.dep (q := 0) hi rfl rfl rfl
      obtain rfl : l14 = true := AnyOrder.dep (q := 1) hi rfl rfl rfl
      obtain rfl : l0 = true := AnyOrder.dep (q := 2) hi rfl rfl rfl
      obtain rfl : l1 = true := AnyOrder.dep (q := 3) hi rfl rfl rfl
      obtain rfl : l2 = true := AnyOrder.dep (q := 4) hi rfl rfl rfl
      obtain rfl : l3 = true := AnyOrder.dep (q := 5) hi rfl rfl rfl
      obtain rfl : l4 = true := AnyOrder.dep (q := 6) hi rfl rfl rfl
      obtain rfl : l5 = true := AnyOrder.dep (q := 7) hi rfl rfl rfl
      obtain rfl : l6 = true := AnyOrder.dep (q := 8) hi rfl rfl rfl
      obtain rfl : l7 = true := AnyOrder.dep (q := 9) hi rfl rfl rfl
      obtain rfl : l8 = true := AnyOrder.dep (q := 10) hi rfl rfl rfl
      obtain rfl : l9 = true := AnyOrder.dep (q := 11) hi rfl rfl rfl
      obtain rfl : l10 = true := AnyOrder.dep (q := 12) hi rfl rfl rfl
      obtain rfl : l11 = true := AnyOrder.dep (q := 13) hi rfl rfl rfl
      obtain rfl : l12 = true := AnyOrder.dep (q := 14) hi rfl rfl rfl
      clear hi
      simp only [sel_true, selv_true] at hK ⊢
      refine AnyOrder.wpOp_go rfl (by rfl) ?_
      go_wp2_with fail
      exact ⟨true, true, true, true, true, true, true, true, true, true, true, true, true, true, true, true, rfl, rfl, HF⟩
    case last =>
     rintro L ac V ⟨l0, l1, l2, l3, l4, l5, l6, l7, l8, l9, l10, l11, l12, l13, l14, l15, rfl, rfl, HF⟩ hr
     have hall := AnyOrder.all_listed rfl (by kernel_rfl) hr
     clear hr
     obtain rfl : l0 = true := hall 0 (by decide)
     obtain rfl : l1 = true := hall 1 (by decide)
     obtain rfl : l2 = true := hall 2 (by decide)
     obtain rfl : l3 = true := hall 3 (by decide)
     obtain rfl : l4 = true := hall 4 (by decide)
     obtain rfl : l5 = true := hall 5 (by decide)
     obtain rfl : l6 = true := hall 6 (by decide)
     obtain rfl : l7 = true := hall 7 (by decide)
     obtain rfl : l8 = true := hall 8 (by decide)
     obtain rfl : l9 = true := hall 9 (by decide)
     obtain rfl : l10 = true := hall 10 (by decide)
     obtain rfl : l11 = true := hall 11 (by decide)
     obtain rfl : l12 = true := hall 12 (by decide)
     obtain rfl : l13 = true := hall 13 (by decide)
     obtain rfl : l14 = true := hall 14 (by decide)
     obtain rfl : l15 = true := hall 15 (by decide)
     clear hall
     simp only [sel_true, selv_true]
     go_wp2
     refine bodyPost_ret (results_tmp2 rfl _ _ _) rfl ?_
     exact ⟨by rw [HR.out]; rfl, HF.out.below⟩
   ·
    obtain rfl : n = q := by omega
    have HR : Aside0 (hf = false) := ⟨by rw [← HHF.out, hasK, HQ.out, List.getElem?_eq_none (by rw [HE.out.kl]; exact Nat.le_refl _)]; rfl⟩
    go_wp2_with fail
    refine AnyOrder.wp_region (by kernel_rfl) (bsfInv w A w.heap.size bm n c d u11 (.slice A n c) (.int .i64 n) (.int .i64 n) (.int .i64 n) (.int .i64 n) (.bool false) u18 u19 u20 u21 u22 u23 u24 u25 u26 u27 u28 u29 u30 u31 u32 u33 u34) ?start ?step ?last
    case start => exact ⟨false, false, false, false, false, false, false, false, false, false, false, false, false, false, false, false, rfl, rfl, ⟨HB.out.drew⟩⟩
    case step =>
     rintro L ac V i ⟨l0, l1, l2, l3, l4, l5, l6, l7, l8, l9, l10, l11, l12, l13, l14, l15, rfl, rfl, HF⟩ hi K hK
     have h1 : i = 0 ∨ i = 1 ∨ i = 2 ∨ i = 3 ∨ i = 4 ∨ i = 5 ∨ i = 6 ∨ i = 7 ∨ i = 8 ∨ i = 9 ∨ i = 10 ∨ i = 11 ∨ i = 12 ∨ i = 13 ∨ i = 14 ∨ i = 15 := by
      have h1 := (AnyOrder.mem_ready hi).1
      clear hi hK
      change i < 16 at h1
      omega
     rcases h1 with rfl | rfl | rfl | rfl | rfl | rfl | rfl | rfl | rfl | rfl | rfl | rfl | rfl | rfl | rfl | rfl
     ·
      obtain rfl : l0 = false := (AnyOrder.mem_ready hi).2.1
      clear hi
      refine AnyOrder.wpOp_go rfl (by rfl) ?_
      go_wp2_with fail
      exact ⟨true, l1, l2, l3, l4, l5, l6, l7, l8, l9, l10, l11, l12, l13, l14, l15, rfl, rfl, HF⟩
     ·
      obtain rfl : l1 = false := (AnyOrder.mem_ready hi).2.1
      clear hi
      refine AnyOrder.wpOp_go rfl (by rfl) ?_
      go_wp2_with fail
      exact ⟨l0, true, l2, l3, l4, l5, l6, l7, l8, l9, l10, l11, l12, l13, l14, l15, rfl, rfl, HF⟩
     ·
      obtain rfl : l2 = false := (AnyOrder.mem_ready hi).2.1
      clear hi
      refine AnyOrder.wpOp_go rfl (by rfl) ?_
      go_wp2_with fail
      exact ⟨l0, l1, true, l3, l4, l5, l6, l7, l8, l9, l10, l11, l12, l13, l14, l15, rfl, rfl, HF⟩
     ·
      obtain rfl : l3 = false := (AnyOrder.mem_ready hi).2.1
      obtain rfl : l1 = true := AnyOrder.dep (q := 0) hi rfl rfl rfl
      obtain rfl : l2 = true := AnyOrder.dep (q := 1) hi rfl rfl rfl
      clear hi
      simp only [sel_true, selv_true] at hK ⊢
      have hh : decide ((n : Int) < (n : Int)) = false := decide_eq_false (by omega)
      refine AnyOrder.wpOp_go rfl (by rfl) ?_
      go_wp2_with fail
      exact ⟨l0, true, true, true, l4, l5, l6, l7, l8, l9, l10, l11, l12, l13, l14, l15, rfl, rfl, HF⟩
     ·
      obtain rfl : l4 = false := (AnyOrder.mem_ready hi).2.1
      obtain rfl : l3 = true := AnyOrder.dep (q := 0) hi rfl rfl rfl
      clear hi
      simp only [sel_true, selv_true] at hK ⊢
      refine AnyOrder.wpOp_go rfl (by rfl) ?_
      go_wp2_with fail
      exact ⟨l0, l1, l2, true, true, l5, l6, l7, l8, l9, l10, l11, l12, l13, l14, l15, rfl, rfl, HF⟩
     ·
      obtain rfl : l5 = false := (AnyOrder.mem_ready hi).2.1
      obtain rfl : l4 = true := AnyOrder.dep (q := 0) hi rfl rfl rfl
      clear hi
      simp only [sel_true, selv_true] at hK ⊢
      refine AnyOrder.wpOp_out rfl (by rfl) ?_
      exact hK _ _ ⟨l0, l1, l2, l3, true, true, l6, l7, l8, l9, l10, l11, l12, l13, l14, l15, rfl, rfl, HF⟩
     ·
      obtain rfl : l6 = false := (AnyOrder.mem_ready hi).2.1
      obtain rfl : l4 = true := AnyOrder.dep (q := 0) hi rfl rfl rfl
      clear hi
      simp only [sel_true, selv_true] at hK ⊢
      refine AnyOrder.wpOp_out rfl (by rfl) ?_
      exact hK _ _ ⟨l0, l1, l2, l3, true, l5, true, l7, l8, l9, l10, l11, l12, l13, l14, l15, rfl, rfl, HF⟩
     ·
      obtain rfl : l7 = false := (AnyOrder.mem_ready hi).2.1
      obtain rfl : l4 = true := AnyOrder.dep (q := 0) hi rfl rfl rfl
      clear hi
      simp only [sel_true, selv_true] at hK ⊢
      refine AnyOrder.wpOp_out rfl (by rfl) ?_
      exact hK _ _ ⟨l0, l1, l2, l3, true, l5, l6, true, l8, l9, l10, l11, l12, l13, l14, l15, rfl, rfl, HF⟩
     ·
      obtain rfl : l8 = false := (AnyOrder.mem_ready hi).2.1
      obtain rfl : l4 = true := AnyOrder.dep (q := 2) hi rfl rfl rfl
      clear hi
      simp only [sel_true, selv_true] at hK ⊢
      refine AnyOrder.wpOp_out rfl (by rfl) ?_
      exact hK _ _ ⟨l0, l1, l2, l3, true, l5, l6, l7, true, l9, l10, l11, l12, l13, l14, l15, rfl, rfl, HF⟩
     ·
      obtain rfl : l9 = false := (AnyOrder.mem_ready hi).2.1
      obtain rfl : l4 = true := AnyOrder.dep (q := 1) hi rfl rfl rfl
      clear hi
      simp only [sel_true, selv_true] at hK ⊢
      refine AnyOrder.wpOp_out rfl (by rfl) ?_
      exact hK _ _ ⟨l0, l1, l2, l3, true, l5, l6, l7, l8, true, l10, l11, l12, l13, l14, l15, rfl, rfl, HF⟩
     ·
      obtain rfl : l10 = false := (AnyOrder.mem_ready hi).2.1
      obtain rfl : l4 = true := AnyOrder.dep (q := 0) hi rfl rfl rfl
      clear hi
      simp only [sel_true, selv_true] at hK ⊢
      refine AnyOrder.wpOp_out rfl (by rfl) ?_
      exact hK _ _ ⟨l0, l1, l2, l3, true, l5, l6, l7, l8, l9, true, l11, l12, l13, l14, l15, rfl, rfl, HF⟩
     ·
      obtain rfl : l11 = false := (AnyOrder.mem_ready hi).2.1
      obtain rfl : l4 = true := AnyOrder.dep (q := 3) hi rfl rfl rfl
      clear hi
      simp only [sel_true, selv_true] at hK ⊢
      refine AnyOrder.wpOp_out rfl (by rfl) ?_
      exact hK _ _ ⟨l0, l1, l2, l3, true, l5, l6, l7, l8, l9, l10, true, l12, l13, l14, l15, rfl, rfl, HF⟩
     ·
      obtain rfl : l12 = false := (AnyOrder.mem_ready hi).2.1
      obtain rfl : l4 = true := AnyOrder.dep (q := 1) hi rfl rfl rfl
      clear hi
      simp only [sel_true, selv_true] at hK ⊢
      refine AnyOrder.wpOp_out rfl (by rfl) ?_
      exact hK _ _ ⟨l0, l1, l2, l3, true, l5, l6, l7, l8, l9, l10, l11, true, l13, l14, l15, rfl, rfl, HF⟩
     ·
      obtain rfl : l13 = false := (AnyOrder.mem_ready hi).2.1
      obtain rfl : l4 = true := AnyOrder.dep (q := 0) hi rfl rfl rfl
      obtain rfl : l12 = true := AnyOrder.dep (q := 1) hi rfl rfl rfl
      clear hi
      simp only [sel_true, selv_true] at hK ⊢
      refine AnyOrder.wpOp_go rfl (by rfl) ?_
      go_wp2_with fail
      exact ⟨l0, l1, l2, l3, true, l5, l6, l7, l8, l9, l10, l11, true, true, l14, l15, rfl, rfl, HF⟩
     ·
      obtain rfl : l14 = false := (AnyOrder.mem_ready hi).2.1
      obtain rfl : l0 = true := AnyOrder.dep (q := 0) hi rfl rfl rfl
      obtain rfl : l11 = true := AnyOrder.dep (q := 1) hi rfl rfl rfl
      clear hi
      simp only [sel_true, selv_true] at hK ⊢
      refine AnyOrder.wpOp_go rfl (by rfl) ?_
      go_wp2_with fail
      exact ⟨true, l1, l2, l3, l4, l5, l6, l7, l8, l9, l10, true, l12, l13, true, l15, rfl, rfl, HF⟩
     ·
      obtain rfl : l15 = false := (AnyOrder.mem_ready hi).2.1
      obtain rfl : l13 = true := AnyOrder.dep (q := 0) hi rfl rfl rfl
      obtain rfl : l14 = true := AnyOrder.dep (q := 1) hi rfl rfl rfl
      obtain rfl : l0 = true := AnyOrder.dep (q := 2) hi rfl rfl rfl
      obtain rfl : l1 = true := AnyOrder.dep (q := 3) hi rfl rfl rfl
      obtain rfl : l2 = true := AnyOrder.dep (q := 4) hi rfl rfl rfl
      obtain rfl : l3 = true := AnyOrder.dep (q := 5) hi rfl rfl rfl
      obtain rfl : l4 = true := AnyOrder.dep (q := 6) hi rfl rfl rfl
      obtain rfl : l5 = true := AnyOrder.dep (q := 7) hi rfl rfl rfl
      obtain rfl : l6 = true := AnyOrder.dep (q := 8) hi rfl rfl rfl
      obtain rfl : l7 = true := AnyOrder.dep (q := 9) hi rfl rfl rfl
      obtain rfl : l8 = true := AnyOrder.dep (q := 10) hi rfl rfl rfl
      obtain rfl : l9 = true := AnyOrder.dep (q := 11) hi rfl rfl rfl
      obtain rfl : l10 = true := AnyOrder.dep (q := 12) hi rfl rfl rfl
      obtain rfl : l11 = true := AnyOrder.dep (q := 13) hi rfl rfl rfl
      obtain rfl : l12 = true := AnyOrder.dep (q := 14) hi rfl rfl rfl
      clear hi
      simp only [sel_true, selv_true] at hK ⊢
      refine AnyOrder.wpOp_go rfl (by rfl) ?_
      go_wp2_with fail
      exact ⟨true, true, true, true, true, true, true, true, true, true, true, true, true, true, true, true, rfl, rfl, HF⟩
    case last =>
     rintro L ac V ⟨l0, l1, l2, l3, l4, l5, l6, l7, l8, l9, l10, l11, l12, l13, l14, l15, rfl, rfl, HF⟩ hr
     have hall := AnyOrder.all_listed rfl (by kernel_rfl) hr
     clear hr
     obtain rfl : l0 = true := hall 0 (by decide)
     obtain rfl : l1 = true := hall 1 (by decide)
     obtain rfl : l2 = true := hall 2 (by decide)
     obtain rfl : l3 = true := hall 3 (by decide)
     obtain rfl : l4 = true := hall 4 (by decide)
     obtain rfl : l5 = true := hall 5 (by decide)
     obtain rfl : l6 = true := hall 6 (by decide)
     obtain rfl : l7 = true := hall 7 (by decide)
     obtain rfl : l8 = true := hall 8 (by decide)
     obtain rfl : l9 = true := hall 9 (by decide)
     obtain rfl : l10 = true := hall 10 (by decide)
     obtain rfl : l11 = true := hall 11 (by decide)
     obtain rfl : l12 = true := hall 12 (by decide)
     obtain rfl : l13 = true := hall 13 (by decide)
     obtain rfl : l14 = true := hall 14 (by decide)
     obtain rfl : l15 = true := hall 15 (by decide)
     clear hall
     simp only [sel_true, selv_true]
     go_wp2
     refine bodyPost_ret (results_tmp2 rfl _ _ _) rfl ?_
     exact ⟨by rw [HR.out]; rfl, HF.out.below⟩
theorem eql_func_nil (W : World) : (binOp .eql 99 cmpV .nilFunc).run Tryd.prog W = .ok (.bool false) W := by
 have h : ∀ d : Nat, (Op.equalIn (d + 1) 99 cmpV .nilFunc).run Tryd.prog W = .ok false W := fun d => by
  simp [Op.equalIn, run_underlying Tryd.underlying99]
 simp only [binOp]
 simp [Op.equal, Op.maxDepth, h 9999]
set_option maxRecDepth 100000 in
theorem zero_call (mp : Nat) (sl : Value) (w : World) (hmp : w.heap[mp]? = some (.cells #[cmpV, sl] 141 (0, 0))) : Calls Tryd.prog 103 #[.pointer (some ⟨mp, 0, none⟩)] w fun e w' => e = .returned (.bool false) ∧ w' = w := by
 have c0 : w.cell? ⟨mp, 0, none⟩ = _ := (blk_cell hmp 0).trans rfl
 have hq := eql_func_nil
 clear hmp
 go_enter Tryd.func103, Tryd.ntmps103
 go_wp2
 go_ret
 exact ⟨rfl, rfl⟩
structure Fnd (W0 : World) (mp bm B : Nat) (A : Option Addr) (n c : Nat) (ks : List Dot) (vs : List Value) (d : Dot) (V : World) : Prop where
 below : Below W0.heap.size W0 V
 map : W0.heap[mp]? = some (.cells #[cmpV, .slice A n c] 141 (0, 0))
 box : W0.heap[bm]? = some (.cells #[.pointer (some ⟨mp, 0, none⟩)] 119 (0, 0))
 key : W0.heap[B]? = some (.cells #[.int .i64 d.f0, .int .i64 d.f1] 35 (0, 0))
 ents : Ents W0 A n ks vs
theorem Fnd.more {W0 V V' : World} {mp bm B : Nat} {A : Option Addr} {n c : Nat} {ks : List Dot} {vs : List Value} {d : Dot} (h : Fnd W0 mp bm B A n c ks vs d V) (hb : Below V.heap.size V V') : Fnd W0 mp bm B A n c ks vs d V' := ⟨below_more h.below hb, h.map, h.box, h.key, h.ents⟩
def findInv (W0 : World) (mp bm B : Nat) (A : Option Addr) (n c : Nat) (ks : List Dot) (vs : List Value) (d : Dot) (L : Array Bool) (ac : Act) (V : World) : Prop := ∃ (l0 l1 l2 l3 l4 l5 l6 l7 l8 l9 l10 : Bool), L = #[l0, l1, l2, l3, l4, l5, l6, l7, l8, l9, l10] ∧ ac = { tmps := #[.pointer (some ⟨mp, 0, none⟩), vDot d, .pointer (some ⟨bm, 0, none⟩), .pointer (some ⟨B, 0, none⟩), selv l9 (.int .i64 (posK ks d)) (.int .i64 0), selv l10 (.bool (hasK ks d)) (.bool false), .pointer (some ⟨mp, 0, none⟩), .bool false, sel l0 (.pointer (some ⟨mp, 0, none⟩)), sel l1 (.pointer (some ⟨mp, 0, none⟩)), sel l2 (.pointer (some ⟨mp, 1, none⟩)), sel l3 (.slice A n c), sel l4 (vDot d), sel l5 (.func (.func 110) #[] #[.pointer (some ⟨bm, 0, none⟩)]), sel l6 (.tuple #[.int .i64 (posK ks d), .bool (hasK ks d)]), sel l7 (.int .i64 (posK ks d)), sel l8 (.bool (hasK ks d))], defers := [] } ∧ Aside0 (Fnd W0 mp bm B A n c ks vs d V)
set_option maxHeartbeats 1000000 in
set_option maxRecDepth 100000 in
theorem find_call (mp : Nat) (ks : List Dot) (vs : List Value) (A : Option Addr) (n c : Nat) (d : Dot) (w : World) (hs : incB ks = true) (he : Ents w A n ks vs) (hmp : w.heap[mp]? = some (.cells #[cmpV, .slice A n c] 141 (0, 0))) :
  Calls Tryd.prog 102 #[.pointer (some ⟨mp, 0, none⟩), vDot d] w fun e w' => e = .returned (.tuple #[.int .i64 (posK ks d), .bool (hasK ks d)]) ∧ Below w.heap.size w w' := by
 have HS := Aside0.mk hs
 have HF0 : Aside0 (Fnd ((w.alloc (.cells #[.pointer (some ⟨mp, 0, none⟩)] 119 (0, 0))).alloc (.cells #[.int .i64 d.f0, .int .i64 d.f1] 35 (0, 0))) mp w.heap.size (w.heap.size + 1) A n c ks vs d ((w.alloc (.cells #[.pointer (some ⟨mp, 0, none⟩)] 119 (0, 0))).alloc (.cells #[.int .i64 d.f0, .int .i64 d.f1] 35 (0, 0)))) := ⟨⟨Below.refl _ _, blk_alloc (blk_alloc hmp _) _, blk_alloc (blk_new _ _) _, by have := blk_new (w.alloc (.cells #[.pointer (some ⟨mp, 0, none⟩)] 119 (0, 0))) (.cells #[.int .i64 d.f0, .int .i64 d.f1] 35 (0, 0)); rwa [World.size_alloc] at this, he.below (((Gr.alloc w _).trans (Gr.alloc _ _)).below)⟩⟩
 have HW := Aside0.mk ((Gr.alloc w (.cells #[.pointer (some ⟨mp, 0, none⟩)] 119 (0, 0))).trans (Gr.alloc _ (.cells #[.int .i64 d.f0, .int .i64 d.f1] 35 (0, 0)))).below
 clear hs he hmp
 go_enter Tryd.func102, Tryd.ntmps102
 go_wp2_with fail
 refine (zero_call mp _ _ HF0.out.map).mono ?_
 rintro e w1 ⟨rfl, rfl⟩
 go_wp2_with fail
 refine AnyOrder.wp_region (by kernel_rfl) (findInv ((w.alloc (.cells #[.pointer (some ⟨mp, 0, none⟩)] 119 (0, 0))).alloc (.cells #[.int .i64 d.f0, .int .i64 d.f1] 35 (0, 0))) mp w.heap.size (w.heap.size + 1) A n c ks vs d) ?start ?step ?last
 case start => exact ⟨false, false, false, false, false, false, false, false, false, false, false, rfl, rfl, ⟨HF0.out.more (Gr.drew _).below⟩⟩
 case step =>
  rintro L ac V i ⟨l0, l1, l2, l3, l4, l5, l6, l7, l8, l9, l10, rfl, rfl, HF⟩ hi K hK
  have h1 : i = 0 ∨ i = 1 ∨ i = 2 ∨ i = 3 ∨ i = 4 ∨ i = 5 ∨ i = 6 ∨ i = 7 ∨ i = 8 ∨ i = 9 ∨ i = 10 := by
   have h1 := (AnyOrder.mem_ready hi).1
   clear hi hK
   change i < 11 at h1
   omega
  rcases h1 with rfl | rfl | rfl | rfl | rfl | rfl | rfl | rfl | rfl | rfl | rfl
  ·
   obtain rfl : l0 = false := (AnyOrder.mem_ready hi).2.1
   clear hi
   have cb0 : V.cell? ⟨w.heap.size, 0, none⟩ = _ := (blk_cell (blk_keep HF.out.box HF.out.below) 0).trans rfl
   refine AnyOrder.wpOp_go rfl (by rfl) ?_
   go_wp2_with fail
   exact ⟨true, l1, l2, l3, l4, l5, l6, l7, l8, l9, l10, rfl, rfl, HF⟩
  ·
   obtain rfl : l1 = false := (AnyOrder.mem_ready hi).2.1
   obtain rfl : l0 = true := AnyOrder.dep (q := 0) hi rfl rfl rfl
   clear hi
   simp only [sel_true, selv_true] at hK ⊢
   refine AnyOrder.wpOp_go rfl (by rfl) ?_
   go_wp2_with fail
   exact ⟨true, true, l2, l3, l4, l5, l6, l7, l8, l9, l10, rfl, rfl, HF⟩
  ·
   obtain rfl : l2 = false := (AnyOrder.mem_ready hi).2.1
   obtain rfl : l1 = true := AnyOrder.dep (q := 0) hi rfl rfl rfl
   clear hi
   simp only [sel_true, selv_true] at hK ⊢
   refine AnyOrder.wpOp_go rfl (by rfl) ?_
   go_wp2_with fail
   exact ⟨l0, true, true, l3, l4, l5, l6, l7, l8, l9, l10, rfl, rfl, HF⟩
  ·
   obtain rfl : l3 = false := (AnyOrder.mem_ready hi).2.1
   obtain rfl : l2 = true := AnyOrder.dep (q := 0) hi rfl rfl rfl
   clear hi
   simp only [sel_true, selv_true] at hK ⊢
   have cm1 : V.cell? ⟨mp, 1, none⟩ = _ := (blk_cell (blk_keep HF.out.map HF.out.below) 1).trans rfl
   refine AnyOrder.wpOp_go rfl (by rfl) ?_
   go_wp2_with fail
   exact ⟨l0, l1, true, true, l4, l5, l6, l7, l8, l9, l10, rfl, rfl, HF⟩
  ·
   obtain rfl : l4 = false := (AnyOrder.mem_ready hi).2.1
   clear hi
   have ck0 : V.cell? ⟨w.heap.size + 1, 0, none⟩ = _ := (blk_cell (blk_keep HF.out.key HF.out.below) 0).trans rfl
   have ck1 : V.cell? ⟨w.heap.size + 1, 1, none⟩ = _ := (blk_cell (blk_keep HF.out.key HF.out.below) 1).trans rfl
   refine AnyOrder.wpOp_go rfl (by rfl) ?_
   go_wp2_with fail
   exact ⟨l0, l1, l2, l3, true, l5, l6, l7, l8, l9, l10, rfl, rfl, HF⟩
  ·
   obtain rfl : l5 = false := (AnyOrder.mem_ready hi).2.1
   clear hi
   refine AnyOrder.wpOp_go rfl (by rfl) ?_
   go_wp2_with fail
   exact ⟨l0, l1, l2, l3, l4, true, l6, l7, l8, l9, l10, rfl, rfl, HF⟩
  ·
   obtain rfl : l6 = false := (AnyOrder.mem_ready hi).2.1
   obtain rfl : l3 = true := AnyOrder.dep (q := 0) hi rfl rfl rfl
   obtain rfl : l4 = true := AnyOrder.dep (q := 1) hi rfl rfl rfl
   obtain rfl : l5 = true := AnyOrder.dep (q := 2) hi rfl rfl rfl
   clear hi
   simp only [sel_true, selv_true] at hK ⊢
   refine AnyOrder.wpOp_go rfl (by rfl) ?_
   go_wp2_with fail
   refine (bsearch_call ks vs A n c d w.heap.size mp _ V HS.out (HF.out.ents.below HF.out.below) (blk_keep HF.out.box HF.out.below) (blk_keep HF.out.map HF.out.below)).mono ?_
   rintro e V' ⟨rfl, hb⟩
   exact hK _ _ ⟨l0, l1, l2, true, true, true, true, l7, l8, l9, l10, rfl, rfl, ⟨HF.out.more hb⟩⟩
  ·
   obtain rfl : l7 = false := (AnyOrder.mem_ready hi).2.1
   obtain rfl : l6 = true := AnyOrder.dep (q := 0) hi rfl rfl rfl
   clear hi
   simp only [sel_true, selv_true] at hK ⊢
   refine AnyOrder.wpOp_go rfl (by rfl) ?_
   go_wp2_with fail
   exact ⟨l0, l1, l2, l3, l4, l5, true, true, l8, l9, l10, rfl, rfl, HF⟩
  ·
   obtain rfl : l8 = false := (AnyOrder.mem_ready hi).2.1
   obtain rfl : l6 = true := AnyOrder.dep (q := 0) hi rfl rfl rfl
   clear hi
   simp only [sel_true, selv_true] at hK ⊢
   refine AnyOrder.wpOp_go rfl (by rfl) ?_
   go_wp2_with fail
   exact ⟨l0, l1, l2, l3, l4, l5, true, l7, true, l9, l10, rfl, rfl, HF⟩
  ·
   obtain rfl : l9 = false := (AnyOrder.mem_ready hi).2.1
   obtain rfl : l7 = true := AnyOrder.dep (q := 0) hi rfl rfl rfl
   obtain rfl : l6 = true := AnyOrder.dep (q := 1) hi rfl rfl rfl
   obtain rfl : l0 = true := AnyOrder.dep (q := 2) hi rfl rfl rfl
   obtain rfl : l1 = true := AnyOrder.dep (q := 3) hi rfl rfl rfl
   obtain rfl : l2 = true := AnyOrder.dep (q := 4) hi rfl rfl rfl
   obtain rfl : l3 = true := AnyOrder.dep (q := 5) hi rfl rfl rfl
   obtain rfl : l4 = true := AnyOrder.dep (q := 6) hi rfl rfl rfl
   obtain rfl : l5 = true := AnyOrder.dep (q := 7) hi rfl rfl rfl
   obtain rfl : l8 = true := AnyOrder.dep (q := 10) hi rfl rfl rfl
   clear hi
   simp only [sel_true, selv_true] at hK ⊢
   refine AnyOrder.wpOp_go rfl (by rfl) ?_
   go_wp2_with fail
   exact ⟨true, true, true, true, true, true, true, true, true, true, l10, rfl, rfl, HF⟩
  ·
   obtain rfl : l10 = false := (AnyOrder.mem_ready hi).2.1
   obtain rfl : l8 = true := AnyOrder.dep (q := 0) hi rfl rfl rfl
   obtain rfl : l9 = true := AnyOrder.dep (q := 1) hi rfl rfl rfl
   obtain rfl : l0 = true := AnyOrder.dep (q := 2) hi rfl rfl rfl
   obtain rfl : l1 = true := AnyOrder.dep (q := 3) hi rfl rfl rfl
   obtain rfl : l2 = true := AnyOrder.dep (q := 4) hi rfl rfl rfl
   obtain rfl : l3 = true := AnyOrder.dep (q := 5) hi rfl rfl rfl
   obtain rfl : l4 = true := AnyOrder.dep (q := 6) hi rfl rfl rfl
   obtain rfl : l5 = true := AnyOrder.dep (q := 7) hi rfl rfl rfl
   obtain rfl : l6 = true := AnyOrder.dep (q := 8) hi rfl rfl rfl
   obtain rfl : l7 = true := AnyOrder.dep (q := 9) hi rfl rfl rfl
   clear hi
   simp only [sel_true, selv_true] at hK ⊢
   refine AnyOrder.wpOp_go rfl (by rfl) ?_
   go_wp2_with fail
   exact ⟨true, true, true, true, true, true, true, true, true, true, true, rfl, rfl, HF⟩
 case last =>
  rintro L ac V ⟨l0, l1, l2, l3, l4, l5, l6, l7, l8, l9, l10, rfl, rfl, HF⟩ hr
  have hall := AnyOrder.all_listed rfl (by kernel_rfl) hr
  clear hr
  obtain rfl : l0 = true := hall 0 (by decide)
  obtain rfl : l1 = true := hall 1 (by decide)
  obtain rfl : l2 = true := hall 2 (by decide)
  obtain rfl : l3 = true := hall 3 (by decide)
  obtain rfl : l4 = true := hall 4 (by decide)
  obtain rfl : l5 = true := hall 5 (by decide)
  obtain rfl : l6 = true := hall 6 (by decide)
  obtain rfl : l7 = true := hall 7 (by decide)
  obtain rfl : l8 = true := hall 8 (by decide)
  obtain rfl : l9 = true := hall 9 (by decide)
  obtain rfl : l10 = true := hall 10 (by decide)
  clear hall
  simp only [sel_true, selv_true]
  go_wp2
  refine bodyPost_ret (results_tmp2 rfl _ _ _) rfl ?_
  exact ⟨rfl, below_more HW.out HF.out.below⟩
def getV (ks : List Dot) (vs : List Value) (d : Dot) : Value := if hasK ks d = true then (vs[posK ks d]?).getD undef else .slice none 0 0
theorem hasK_lt {ks : List Dot} {d : Dot} (h : hasK ks d = true) : posK ks d < ks.length := by
 unfold hasK at h
 exact (List.getElem?_eq_some_iff.1 (of_decide_eq_true h)).1
set_option maxHeartbeats 1000000 in
set_option maxRecDepth 100000 in
theorem get_call (mp : Nat) (ks : List Dot) (vs : List Value) (A : Option Addr) (n c : Nat) (d : Dot) (w : World) (hs : incB ks = true) (he : Ents w A n ks vs) (hmp : w.heap[mp]? = some (.cells #[cmpV, .slice A n c] 141 (0, 0))) :
  Calls Tryd.prog 95 #[.pointer (some ⟨mp, 0, none⟩), vDot d] w fun e w' => e = .returned (.tuple #[getV ks vs d, .bool (hasK ks d)]) ∧ Below w.heap.size w w' := by
 have HS := Aside0.mk hs
 have hb1 := (Gr.alloc w (.cells #[.int .i64 d.f0, .int .i64 d.f1] 35 (0, 0))).below
 have HE := Aside0.mk (he.below hb1)
 have HM := Aside0.mk (blk_keep hmp hb1)
 have HK : Aside0 ((w.alloc (.cells #[.int .i64 d.f0, .int .i64 d.f1] 35 (0, 0))).heap[w.heap.size]? = some (.cells #[.int .i64 d.f0, .int .i64 d.f1] 35 (0, 0))) := ⟨blk_new _ _⟩
 have HB := Aside0.mk hb1
 have hc0 : (w.alloc (.cells #[.int .i64 d.f0, .int .i64 d.f1] 35 (0, 0))).cell? ⟨w.heap.size, 0, none⟩ = _ := (blk_cell HK.out 0).trans rfl
 have hc1 : (w.alloc (.cells #[.int .i64 d.f0, .int .i64 d.f1] 35 (0, 0))).cell? ⟨w.heap.size, 1, none⟩ = _ := (blk_cell HK.out 1).trans rfl
 clear hs he hmp hb1
 obtain ⟨q, HQ⟩ : ∃ q, Aside0 (posK ks d = q) := ⟨_, ⟨rfl⟩⟩
 obtain ⟨hf, HHF⟩ : ∃ hf, Aside0 (hasK ks d = hf) := ⟨_, ⟨rfl⟩⟩
 obtain ⟨rv, HRV⟩ : ∃ rv, Aside0 (getV ks vs d = rv) := ⟨_, ⟨rfl⟩⟩
 rw [HHF.out, HRV.out]
 go_enter Tryd.func95, Tryd.ntmps95
 go_wp2_with fail
 refine (find_call mp ks vs A n c d _ HS.out HE.out HM.out).mono ?_
 rintro e w1 ⟨rfl, hb⟩
 have HE := Aside0.mk (HE.out.below hb)
 have HM := Aside0.mk (blk_keep HM.out hb)
 have HB := Aside0.mk (below_more HB.out hb)
 rw [HQ.out, HHF.out]
 clear hc0 hc1 hb
 cases hf with
 | false =>
  go_wp2
  refine bodyPost_ret (results_tmp2 rfl _ _ _) rfl ?_
  exact ⟨by rw [← HRV.out, getV, HHF.out]; rfl, HB.out⟩
 | true =>
  have hqn : q < n := by have := hasK_lt HHF.out; rw [HQ.out, HE.out.kl] at this; exact this
  obtain ⟨k, v, eb, hk, hvk, hv1, rfl, c0, c1, c2⟩ := HE.out.get hqn
  have hm1 : w1.cell? ⟨mp, 1, none⟩ = _ := (blk_cell HM.out 1).trans rfl
  have HV : Aside0 (getV ks vs d = v) := ⟨by rw [getV, HHF.out, HQ.out, hvk]; rfl⟩
  clear hk hvk
  go_wp2
  refine bodyPost_ret (results_tmp2 rfl _ _ _) rfl ?_
  exact ⟨by rw [← HRV.out, HV.out]; rfl, HB.out⟩
end Go.Proofs.YtjlpaagnajmogaaDoor.PWalk
end
section
namespace Go.Proofs.YtjlpaagnajmogaaDoor.PWalk
open Go.RowKit Go.Proofs.YtjlpaagnajmogaaDoorW.PrintWords Go.Proofs.YtjlpaagnajmogaaDoorW.PrintLast Go.Proofs.YtjlpaagnajmogaaDoorW.PrintMore
set_option linter.unusedVariables false
set_option linter.unusedSimpArgs false
open Go.Shelf
attribute [local go_sem] Oper.semAt_some
/-- Blocks below n are as they were, but for those of E. -/
def KpE (n : Nat) (E : Nat → Prop) (W W' : World) : Prop := W.heap.size ≤ W'.heap.size ∧ ∀ i, i < n → ¬ E i → W'.heap[i]? = W.heap[i]?
theorem KpE.refl (n : Nat) (E : Nat → Prop) (W : World) : KpE n E W W := ⟨Nat.le_refl _, fun _ _ _ => rfl⟩
theorem KpE.trans {n : Nat} {E : Nat → Prop} {A B C : World} (h : KpE n E A B) (k : KpE n E B C) : KpE n E A C := ⟨Nat.le_trans h.1 k.1, fun i hi he => (k.2 i hi he).trans (h.2 i hi he)⟩
theorem KpE.below {n : Nat} {E : Nat → Prop} {W W' : World} (h : Below n W W') : KpE n E W W' := ⟨h.size, fun i hi _ => h.block i hi⟩
theorem KpE.cell {n : Nat} {E : Nat → Prop} {W W' : World} (h : KpE n E W W') {p : Addr} (hp : p.block < n) (he : ¬ E p.block) {v : Value} (hc : W.cell? p = some v) : W'.cell? p = some v := by
 rw [← hc]
 exact World.cell?_of_block (w := W) (h.2 _ hp he)
theorem KpE.put {n m : Nat} {E : Nat → Prop} (hn : n ≤ m) (W : World) (l : Nat) (o o' : Obj) (hl : m ≤ l) : KpE n E W (W.putObj l o') :=
 ⟨by simp [World.putObj], fun i hi _ => World.putObj_heap_other (by omega)⟩
/-- The elements with their indices, backwards. -/
def bk {α : Type} (l : List α) : List (Nat × α) := (l.zipIdx.map fun p => (p.2, p.1)).reverse
theorem bk_length {α : Type} (l : List α) : (bk l).length = l.length := by simp [bk]
theorem bk_get {α : Type} (l : List α) (k : Nat) (hk : k < l.length) : (bk l)[k]? = some (l.length - 1 - k, l[l.length - 1 - k]'(by omega)) := by
 unfold bk
 rw [List.getElem?_reverse (by simpa using hk)]
 simp only [List.length_map, List.length_zipIdx, List.getElem?_map, List.getElem?_zipIdx, Nat.zero_add]
 rw [List.getElem?_eq_getElem (by omega)]; rfl
theorem calls_of_wp_m {P : Program} {f : FuncId} {fn : Func} {c : Code} {args : Array Value} {w : World} {R : Ending → World → Prop} (hf : P.funcs[f]? = some fn) (hb : fn.body = some c)
  (h : c.wp P (bodyPostM Fence.wide 9 P fn R) { tmps := args ++ Array.replicate (fn.ntmps - args.size) undef, defers := [] } w) : Calls P f args w R :=
 (callsIn_wide (n := 9)).1 (callsIn_of_wp_marks hf hb trivial (wpIn_wide.2 h) rfl)
def mkMark (D : Nat) : Deferred := { target := .collected D, args := #[] }
def Marks (n0 : Nat) (ds : List Deferred) (W : World) : Prop := ∃ Ds : List Nat, ds = Ds.map mkMark ∧ Ds.Nodup ∧ ∀ D ∈ Ds, n0 ≤ D ∧ W.heap[D]? = some (.deferred (some []))
structure OnlyMarks (n0 : Nat) (W W' : World) : Prop where
 os : W'.os = W.os
 tape : W'.tape = W.tape
 output : W'.output = W.output
 size : W'.heap.size = W.heap.size
 block : ∀ k, (k < n0 ∨ ∀ d, W.heap[k]? ≠ some (.deferred d)) → W'.heap[k]? = W.heap[k]?
theorem OnlyMarks.refl (n0 : Nat) (W : World) : OnlyMarks n0 W W := ⟨rfl, rfl, rfl, rfl, fun _ _ => rfl⟩
theorem OnlyMarks.step {n0 D : Nat} {W W' : World} (hD : n0 ≤ D) (hW : W.heap[D]? = some (.deferred (some []))) (h : OnlyMarks n0 (W.putObj D (.deferred none)) W') : OnlyMarks n0 W W' :=
 ⟨h.os, h.tape, h.output, by rw [h.size]; simp, fun k hk => by
  have hne : k ≠ D := by
   rcases hk with hk | hk
   ·
    omega
   ·
    intro e; subst e; exact hk _ hW
  have h1 : (W.putObj D (.deferred none)).heap[k]? = W.heap[k]? := World.putObj_heap_other hne
  exact (h.block k (hk.imp_right fun h2 d => by rw [h1]; exact h2 d)).trans h1⟩
theorem R_onlyMarks {α : Type} {d : Kd α} {e base n0 : Nat} {ok : Nat → Prop} {w w' : World} {v : Value} {xs : List α} (h : d.R e w base ok v xs) (hm : OnlyMarks n0 w w') : d.R e w' base ok v xs :=
 Kd.R_mono (Kd.R_step (Kd.R_bound h) (fun k hk _ => hm.block k (.inr fun o ho => by obtain ⟨_, _, _, q, _, cells, hh⟩ := hk; rw [ho] at hh; cases hh))) (fun _ hk => hk.1)
theorem below_onlyMarks {w W W' : World} (h : Below w.heap.size w W) (hm : OnlyMarks w.heap.size W W') : Below w.heap.size w W' :=
 ⟨hm.os.trans h.os, hm.tape.trans h.tape, hm.output.trans h.output, by rw [hm.size]; exact h.size, fun k hk => (hm.block k (.inl hk)).trans (h.block k hk)⟩
set_option maxHeartbeats 400000 in
theorem BackwardNode.calls (A : Option Addr) (n c0 : Nat) (w : World) :
  Calls Tryd.prog 62 #[.slice A n c0] w fun e w' => e = .returned (.func (.func 81) #[] #[.pointer (some ⟨w.heap.size, 0, none⟩)]) ∧ w' = w.alloc (.cells #[.slice A n c0] 22) := by
 go_enter Tryd.func62, Tryd.ntmps62
 go_wp2
 go_ret
 exact ⟨rfl, rfl⟩
def nodeCells (x : Node) : List Value := [.int .i64 x.f0.f0, .int .i64 x.f0.f1, .int .i64 x.f1.f0, .int .i64 x.f1.f1, .int .i64 x.f2, .int .i32 x.f3]
def cellsOf (l : List Node) : List Value := l.flatMap nodeCells
theorem cellsOf_length (l : List Node) : (cellsOf l).length = l.length * 6 := by
 induction l with
 | nil => rfl
 | cons x l ih => rw [cellsOf, List.flatMap_cons, List.length_append, ← cellsOf, ih]; simp [nodeCells]; omega
theorem cellsOf_append (l m : List Node) : cellsOf (l ++ m) = cellsOf l ++ cellsOf m := by simp [cellsOf]
theorem cellsOf_drop_take (l : List Node) (j : Nat) (x : Node) (h : l[j]? = some x) : ((cellsOf l).drop (j * 6)).take 6 = nodeCells x := by
 induction l generalizing j with
 | nil => simp at h
 | cons y l ih =>
  cases j with
  | zero => simp at h; subst h; simp [cellsOf, nodeCells]
  | succ j =>
   simp at h
   rw [show (j + 1) * 6 = 6 + j * 6 from by omega, cellsOf, List.flatMap_cons, ← cellsOf, ← List.drop_drop, List.drop_left' (by simp [nodeCells])]
   exact ih j h
theorem reps_cells {R : Node → List Value → Prop} (l : List Node) (hR : ∀ x, R x (nodeCells x)) : Reps R 6 l (cellsOf l) :=
 ⟨cellsOf_length l, fun j p hj => by rw [cellsOf_drop_take l j p hj]; exact hR p⟩
theorem cells_of_reps {R : Node → List Value → Prop} (l : List Node) (cs : List Value) (h : Reps R 6 l cs) (hR : ∀ x c, R x c → c = nodeCells x) : cs = cellsOf l := by
 induction l generalizing cs with
 | nil => have := h.1; simp at this; subst this; rfl
 | cons x l ih =>
  obtain ⟨h1, h2⟩ := h
  have h0 := hR _ _ (h2 0 x rfl)
  simp only [Nat.zero_mul, List.drop_zero] at h0
  have ht : Reps R 6 l (cs.drop 6) := ⟨by rw [List.length_drop, h1]; simp; omega, fun j p hj => by
   have := h2 (j + 1) p (by simpa using hj)
   rw [List.drop_drop, show 6 + j * 6 = (j + 1) * 6 from by omega]; exact this⟩
  rw [cellsOf, List.flatMap_cons, ← cellsOf, ← ih _ ht, ← h0, List.take_append_drop]
theorem R_of_cells {w : World} {base : Nat} {ok : Nat → Prop} {v : Value} {l : List Node} (h : w.ownsRow base 37 6 v l.length (cellsOf l)) (hok : ∀ k, v.ownBlock = some k → ok k) : Kd.R k37 37 w base ok v l :=
 ⟨hok, cellsOf l, h, reps_cells l fun x => k37_mkM _ _ _ x⟩
theorem cells_of_R {w : World} {base : Nat} {ok : Nat → Prop} {v : Value} {l : List Node} (h : Kd.R k37 37 w base ok v l) : w.ownsRow base 37 6 v l.length (cellsOf l) := by
 obtain ⟨_, inner, ho, hr⟩ := h
 rw [← cells_of_reps l inner hr fun x c hx => k37_openM hx]
 exact ho
theorem one_cells (l : List Node) : ∀ u ∈ cellsOf l, u.oneCell' = true := by
 intro u hu
 unfold cellsOf at hu
 rw [List.mem_flatMap] at hu
 obtain ⟨x, _, hx⟩ := hu
 simp [nodeCells] at hx
 rcases hx with rfl | rfl | rfl | rfl | rfl | rfl <;> rfl
theorem infoN : (Tryd.prog.info? 37).map (fun i => (i.zero, i.size, i.bytes)) = some (some (.agg #[(.int .i64 0), (.int .i64 0), (.int .i64 0), (.int .i64 0), (.int .i64 0), (.int .i32 0)]), 6, 48) := by kernel_rfl
section
variable {P : Program} {ops : Array Oper} {rest : List Oper} {o : Oper} {a : Act} {Q : Exit → Act → World → Prop}
end
theorem setRow_at {w : World} {g : Nat} {cur : Array Value} {t : TypeId} {fr : Nat × Nat} (h : w.heap[g]? = some (.cells cur t fr)) (cs : Array Value) : (w.setRow g cs).heap[g]? = some (.cells cs t fr) := by
 unfold World.setRow
 simp only [Array.getElem?_modify, if_true, h]
 rfl
theorem setRow_grown (w : World) (g : Nat) (cs : Array Value) : w.grownBy (w.setRow g cs) (some g) :=
 ⟨rfl, rfl, rfl, by simp, fun k hk hne => setRow_other w g k cs (fun e => hne (by rw [e]))⟩
theorem run_clear_row {P : Program} {t e : TypeId} {z : Value} (ht : P.underlying t = some (.slice e)) (hz : ∀ w, (zeroValue e).run P w = .ok z w) (h1 : ∀ u ∈ z.cells.toList, u.oneCell' = true) (ty : TypeId) (g off n c : Nat) (cur : Array Value) (te : TypeId) (w : World)
  (hg : w.heap[g]? = some (.cells cur te (0, 0))) (hn : 0 < n) (hfit : off + n * z.cells.size ≤ cur.size) :
  (Builtin.clear_ #[t] ty #[.slice (some ⟨g, off, none⟩) n c]).run P w = .ok (.tuple #[]) (w.setRow g (cur.toList.take off ++ (Builtin.zeroCells z.cells n).toList ++ cur.toList.drop (off + n * z.cells.size)).toArray) := by
 obtain ⟨m, rfl⟩ : ∃ m, n = m + 1 := ⟨n - 1, by omega⟩
 have hs := run_storeCells_at (P := P) g off te (Builtin.zeroCells z.cells (m + 1)).toList 0 cur w hg (by simp [size_zeroCells]; omega) (by
  intro v hv
  simp only [Builtin.zeroCells, Array.toList_map, List.mem_map] at hv
  obtain ⟨i, hi, rfl⟩ := hv
  rcases Nat.eq_zero_or_pos z.cells.size with h0 | h0
  ·
   simp [h0] at hi
  ·
   have hlt := Nat.mod_lt i h0
   rw [getElem!_pos z.cells (i % z.cells.size) hlt]
   exact h1 _ (by simp))
 have hlen : (Builtin.zeroCells z.cells (m + 1)).toList.length = (m + 1) * z.cells.size := by simp [size_zeroCells]
 rw [hlen] at hs
 simp only [Nat.add_zero] at hs
 unfold Builtin.clear_
 simp [run_underlying ht, hz, hs, Result.andThen]
end Go.Proofs.YtjlpaagnajmogaaDoor.PWalk
end
section
namespace Go.Proofs.YtjlpaagnajmogaaDoor.PWalk
open Go.RowKit Go.Proofs.YtjlpaagnajmogaaDoorW.PrintWords Go.Proofs.YtjlpaagnajmogaaDoorW.PrintLast Go.Proofs.YtjlpaagnajmogaaDoorW.PrintMore
set_option linter.unusedVariables false
set_option linter.unusedSimpArgs false
open Go.Shelf
attribute [local go_sem] Oper.semAt_some
theorem run_copy_rowK {P : Program} (w : World) (dT sT ty elem : TypeId) (k g o dLen dCap : Nat) (a : Addr) (sLen sCap : Nat) (cur : Array Value) (t : TypeId) (cs : List Value)
  (hu : P.underlying dT = some (.slice elem)) (hs : (P.info? elem).map (·.size) = some k)
  (hg : w.heap[g]? = some (.cells cur t (0, 0))) (hn : cs.length = Nat.min sLen dLen * k)
  (hsrc : ∀ j v, cs[j]? = some v → w.cell? (a.add j) = some v) (hfit : o + cs.length ≤ cur.size) (h1 : ∀ v ∈ cs, v.oneCell' = true) :
  (Builtin.copy_ #[dT, sT] ty #[.slice (some ⟨g, o, none⟩) dLen dCap, .slice (some a) sLen sCap]).run P w =
   .ok (goInt (Nat.min sLen dLen)) (w.setRow g (cur.toList.take o ++ cs ++ cur.toList.drop (o + cs.length)).toArray) := by
 have hl := run_loadCells_list (P := P) w a cs hsrc
 have hst := run_storeCells_at P g o t cs 0 cur w hg (by simpa using hfit) h1
 cases hq : P.info? elem with
 | none => simp [hq] at hs
 | some i =>
  have hi : i.size = k := by simpa [hq] using hs
  simp [Builtin.copy_, run_underlying hu, Builtin.lenOf, Builtin.firstCells, sizeOf, typeInfo, hq, hi, ← hn, hl, hst]
abbrev entCells (k : Dot) (u : Value) : List Value := [.int .i64 k.f0, .int .i64 k.f1, u]
theorem infoE : (Tryd.prog.info? 144).map (fun i => (i.zero, i.size, i.bytes)) = some (some (.agg #[(.int .i64 0), (.int .i64 0), (.slice none 0 0)]), 3, 40) := by kernel_rfl
theorem entCells_at {w : World} {g : Nat} {k : Dot} {u : Value} (h : w.heap[g]? = some (.cells #[.int .i64 k.f0, .int .i64 k.f1, u] 144 (0, 0))) (j : Nat) (v : Value) (hj : (entCells k u)[j]? = some v) : w.cell? ((⟨g, 0, none⟩ : Addr).add j) = some v := by
 rw [show (⟨g, 0, none⟩ : Addr).add j = ⟨g, j, none⟩ from by unfold Addr.add; split <;> simp_all]
 rw [blk_cell h, ← Array.getElem?_toList]
 exact hj
theorem entCells_one {k : Dot} {u : Value} (h : u.oneCell' = true) : ∀ v ∈ entCells k u, v.oneCell' = true := by
 intro v hv
 simp at hv
 rcases hv with rfl | rfl | rfl
 ·
  rfl
 ·
  rfl
 ·
  exact h
set_option maxHeartbeats 1000000 in
set_option maxRecDepth 100000 in
theorem insert_end (base : Nat) (A : Option Addr) (n cap : Nat) (cs : List Value) (k : Dot) (u : Value) (gE : Nat) (w : World) (ho : w.ownsRow base 144 3 (.slice A n cap) n cs)
  (hE : w.heap[gE]? = some (.cells #[.int .i64 k.f0, .int .i64 k.f1, u] 144 (0, 0))) (hu1 : u.oneCell' = true) (hn : n ≤ 1000000) (hb : base ≤ w.heap.size) :
  Calls Tryd.prog 104 #[.slice A n cap, .int .i64 n, .slice (some ⟨gE, 0, none⟩) 1 1] w fun e w' => ∃ v', e = .returned v' ∧ w'.ownsRow base 144 3 v' (n + 1) (cs ++ entCells k u) ∧ w.grownBy w' (Value.slice A n cap).ownBlock := by
 obtain ⟨i0, hi, hz0, hz1, hz2⟩ := info_parts infoE
 have HO := Aside0.mk ho
 have HE := Aside0.mk (entCells_at hE)
 have H1 := Aside0.mk (entCells_one (k := k) hu1)
 have hz := Tryd.zeroValue144
 have HN := Aside0.mk hn
 clear hE hu1
 have hcap : n ≤ cap := by
  rcases ho.2 with ⟨h, _⟩ | ⟨g, c, cur, h, _, _, hl, _⟩
  ·
   cases h; exact Nat.le_refl _
  ·
   cases h; exact hl
 clear ho
 cases A with
 | none =>
  go_enter Tryd.func104, Tryd.ntmps104
  go_wp2_with (at_builtin; go_loud (refine wpList_append_own _ rfl (.tmp 23) (.tmp 24) 139 rfl base 144 i0 _ 3 40 Tryd.underlying139 hi hz0 hz1 hz2 rfl (by decide) _ n cs rfl HO.out ⟨gE, 0, none⟩ 1 1 (entCells k u) rfl rfl HE.out H1.out (by unfold maxLen; have := HN.out; omega) (by have := HN.out; omega) hb ?_); intro v' w' ho2 hg2 hn2)
  go_ret
  exact ⟨_, rfl, ho2, hg2⟩
 | some ad =>
  go_enter Tryd.func104, Tryd.ntmps104
  go_wp2_with (at_builtin; go_loud (refine wpList_append_own _ rfl (.tmp 23) (.tmp 24) 139 rfl base 144 i0 _ 3 40 Tryd.underlying139 hi hz0 hz1 hz2 rfl (by decide) _ n cs rfl HO.out ⟨gE, 0, none⟩ 1 1 (entCells k u) rfl rfl HE.out H1.out (by unfold maxLen; have := HN.out; omega) (by have := HN.out; omega) hb ?_); intro v' w' ho2 hg2 hn2)
  all_goals
   go_ret
   exact ⟨_, rfl, ho2, hg2⟩
section
variable {P : Program} {ops : Array Oper} {rest : List Oper} {o : Oper} {a : Act} {Q : Exit → Act → World → Prop}
theorem wp_copy_eq {K : Act → World → Prop} (d s : Operand) (t : TypeId) (ho : o.op = .call { callee := .builtin .copy, args := #[d, s], argTypes := #[t, t] }) {v1 v2 v' : Value} {w w' : World}
  (hd : a.eval d = v1) (hs : a.eval s = v2) (hrun : (Builtin.copy_ #[t, t] o.type #[v1, v2]).run P w = .ok v' w') (h : K (a.put o.dst v') w') : o.wp P a w K Q := by
 unfold Oper.wp
 simp [execOp, ho, resolve, invoke, builtin, hd, hs, hrun, Result.andThen]
 exact h
theorem wpList_append_eq2 (hgd : o.guard = none) (s x : Operand) (t t' : TypeId) (ho : o.op = .call { callee := .builtin .append, args := #[s, x], argTypes := #[t, t'] }) {v1 v2 v' : Value} {w w' : World}
  (hs : a.eval s = v1) (hx : a.eval x = v2) (hrun : (Builtin.append_ #[t, t'] o.type #[v1, v2]).run P w = .ok v' w') (h : wpList P ops Q rest (a.put o.dst v') w') : wpList P ops Q (o :: rest) a w := by
 refine wpList_plain hgd fun K hK => ?_
 unfold Oper.wp
 simp [execOp, ho, resolve, invoke, builtin, hs, hx, hrun, Result.andThen]
 exact hK _ _ h
end
theorem add_lit (g o j : Nat) : (⟨g, o, none⟩ : Addr).add j = ⟨g, o + j, none⟩ := by unfold Addr.add; split <;> simp_all
def shiftInv (w W1 : World) (g gE n cap i j : Nat) (z10 z11 z12 z13 z14 z15 z16 z17 z18 z19 z20 z21 z22 z23 z24 z25 z26 z27 z28 z29 z30 z31 z32 z33 z34 z35 z36 z37 z38 z39 z40 z41 z42 z43 z44 z45 z46 z47 z48 z49 z50 z51 z52 z53 z54 z55 z56 z57 z58 z59 z60 z61 z62 z63 z64 z65 z66 z67 z68 : Value) (L : Array Bool) (ac : Act) (V : World) : Prop := ∃ (l0 l1 l2 l3 l4 l5 l6 l7 l8 : Bool), L = #[l0, l1, l2, l3, l4, l5, l6, l7, l8] ∧ ac = { tmps := #[.slice (some ⟨g, 0, none⟩) (n + 1) cap, .int .i64 i, .slice (some ⟨gE, 0, none⟩) 1 1, undef, undef, undef, .slice none 0 0, .int .i64 1, .int .i64 n, undef, z10, z11, z12, z13, z14, z15, z16, z17, z18, z19, z20, z21, z22, z23, z24, z25, z26, z27, z28, z29, z30, z31, z32, z33, z34, z35, z36, z37, z38, z39, z40, z41, z42, z43, z44, z45, z46, z47, z48, z49, z50, z51, z52, z53, z54, z55, z56, z57, z58, z59, z60, z61, z62, z63, z64, z65, z66, z67, z68, sel l0 (.slice (some ⟨g, 0, none⟩) (n + 1) cap), sel l1 (.int .i64 i), sel l2 (.int .i64 1), sel l3 (.int .i64 j), sel l4 (.slice (some ⟨g, j * 3, none⟩) (n + 1 - j) (cap - j)), sel l5 (.slice (some ⟨g, 0, none⟩) (n + 1) cap), sel l6 (.int .i64 i), sel l7 (.slice (some ⟨g, i * 3, none⟩) (n + 1 - i) (cap - i)), sel l8 (goInt ((n - i : Nat) : Int)), undef, undef, undef, undef, undef, undef, undef, undef, undef, undef, undef, undef, undef, undef, undef, undef, undef], defers := [] } ∧ Aside0 ((l8 = true → V = W1) ∧ (l8 = false → V = w.drew))
set_option maxHeartbeats 1000000 in
set_option maxRecDepth 100000 in
theorem insert_shift (base g n cap i : Nat) (cs : List Value) (k : Dot) (u : Value) (gE : Nat) (w : World) (ho : w.ownsRow base 144 3 (.slice (some ⟨g, 0, none⟩) n cap) n cs)
  (hE : w.heap[gE]? = some (.cells #[.int .i64 k.f0, .int .i64 k.f1, u] 144 (0, 0))) (hne : gE ≠ g) (hu1 : u.oneCell' = true) (hcs1 : ∀ v ∈ cs, v.oneCell' = true) (hn : n ≤ 1000000) (hi : i < n) (hroom : n + 1 ≤ cap) :
  Calls Tryd.prog 104 #[.slice (some ⟨g, 0, none⟩) n cap, .int .i64 i, .slice (some ⟨gE, 0, none⟩) 1 1] w fun e w' => ∃ v', e = .returned v' ∧ w'.ownsRow base 144 3 v' (n + 1) (cs.take (i * 3) ++ entCells k u ++ cs.drop (i * 3)) ∧ w.grownBy w' (some g) := by
 obtain ⟨hcl, ho⟩ := ho
 rcases ho with ⟨h, _⟩ | ⟨g', cap', cur, he, hbg, hcur, hle, hmx, hsz, htk⟩
 ·
  cases h
 cases he
 have hsize : (Tryd.prog.info? 144).map (·.size) = some 3 := by
  obtain ⟨i0, hi0, _, h1, _⟩ := info_parts infoE
  rw [hi0]; simp [h1]
 have hshE : w.shape? gE = some (144, 3) := by unfold World.shape?; rw [hE]; rfl
 have hshG : w.shape? g = some (144, cur.size) := by unfold World.shape?; rw [hcur]
 have hfE : ∀ j, w.frozen? ⟨gE, j, none⟩ = false := fun j => blk_frozen hE j
 have hov : ∀ off lb cb, (callFunc 111 #[.slice (some ⟨gE, 0, none⟩) 1 1, .slice (some ⟨g, off, none⟩) lb cb]).run Tryd.prog w = .ok (.value (.bool false)) w := fun off lb cb => by
  rw [run_callFunc_extern Tryd.func111 (by kernel_rfl) (by kernel_rfl) (by kernel_rfl) (e := Extern.SlicesOverlaps.overlaps #[139, 139] #[4]) (by kernel_rfl),
   Lib.run_overlaps_apart w 139 4 144 Tryd.underlying139 3 Tryd.sizeOf144 ⟨gE, 0, none⟩ ⟨g, off, none⟩ 1 1 lb cb hne 144 144 3 cur.size hshE hshG (by omega) (hfE 0) (hfE 3)]
  rfl
 have hcell : ∀ j v, cs[j]? = some v → w.cell? ⟨g, j, none⟩ = some v := fun j v hj => by
  rw [blk_cell hcur, ← Array.getElem?_toList]
  rw [← htk, List.getElem?_take] at hj
  split at hj
  ·
   exact hj
  ·
   cases hj
 have hcul : cur.toList.length = cap * 3 := by rw [Array.length_toList]; exact hsz
 have hdl : (cs.drop (i * 3)).length = (n - i) * 3 := by rw [List.length_drop, hcl]; omega
 have hdl2 : (cs.take (i * 3)).length = i * 3 := by rw [List.length_take, hcl]; omega
 obtain ⟨j, hj⟩ : ∃ j, i + 1 = j := ⟨_, rfl⟩
 -- the first copy: what stands from i on goes one place up
 have hcp1 := run_copy_rowK (P := Tryd.prog) w.drew 139 139 3 144 3 g (j * 3) (n + 1 - j) (cap - j) ⟨g, i * 3, none⟩ (n + 1 - i) (cap - i) cur 144 (cs.drop (i * 3)) Tryd.underlying139 hsize hcur
  (by rw [hdl]; congr 1; simp only [Nat.min_def]; split <;> omega)
  (fun j v hj => by rw [add_lit]; exact hcell _ v (by rwa [List.getElem?_drop] at hj))
  (by
   rw [hdl, hsz]; exact (show j * 3 + (n - i) * 3 ≤ cap * 3 by omega)) (fun v hv => hcs1 v (List.mem_of_mem_drop hv))
 have hmin1 : Nat.min (n + 1 - i) (n + 1 - j) = n - i := by simp only [Nat.min_def]; split <;> omega
 rw [hmin1] at hcp1
 obtain ⟨cur1, hc1⟩ : ∃ cur1, (cur.toList.take (j * 3) ++ cs.drop (i * 3) ++ cur.toList.drop (j * 3 + (cs.drop (i * 3)).length)).toArray = cur1 := ⟨_, rfl⟩
 rw [hc1] at hcp1
 have hcl1 : cur1.toList.length = cap * 3 := by
  rw [← hc1]
  simp only [List.length_append, List.length_take, List.length_drop, hcul, hcl]
  omega
 have h1a : cur1.toList.take (i * 3) = cs.take (i * 3) := by
  rw [← hc1, ← htk]
  simp only []
  rw [List.append_assoc, List.take_append_of_le_length (by rw [List.length_take, hcul]; omega), List.take_take, List.take_take]
  congr 1; omega
 have h1b : (cur1.toList.drop (i * 3 + 3)).take ((n - i) * 3) = cs.drop (i * 3) := by
  rw [← hc1]
  simp only []
  rw [List.append_assoc, List.drop_append_of_le_length (by rw [List.length_take, hcul]; omega), List.drop_of_length_le (by rw [List.length_take, hcul]; omega), List.nil_append, List.take_left' hdl]
 obtain ⟨W1, hW1⟩ : ∃ W1, w.drew.setRow g cur1 = W1 := ⟨_, rfl⟩
 rw [hW1] at hcp1
 have hcur1 : W1.heap[g]? = some (.cells cur1 144 (0, 0)) := by rw [← hW1]; exact setRow_at (show w.drew.heap[g]? = _ from hcur) cur1
 have hE1 : W1.heap[gE]? = some (.cells #[.int .i64 k.f0, .int .i64 k.f1, u] 144 (0, 0)) := by rw [← hW1]; exact (setRow_other w.drew g gE cur1 hne).trans hE
 have hg1 : w.grownBy W1 (some g) := by
  rw [← hW1]
  have := setRow_grown w.drew g cur1
  exact ⟨this.os, this.tape, this.output, this.size, this.block⟩
 -- the second one: the entry
 have hcp2 := run_copy_rowK (P := Tryd.prog) W1 139 139 3 144 3 g (i * 3) (n + 1 - i) (cap - i) ⟨gE, 0, none⟩ 1 1 cur1 144 (entCells k u) Tryd.underlying139 hsize hcur1
  (by show 3 = _; simp only [Nat.min_def]; split <;> omega) (fun j v hj => entCells_at hE1 j v hj) (by rw [← Array.length_toList, hcl1]; show i * 3 + 3 ≤ _; omega) (entCells_one hu1)
 have hmin2 : Nat.min 1 (n + 1 - i) = 1 := by simp only [Nat.min_def]; split <;> omega
 rw [hmin2] at hcp2
 obtain ⟨cur2, hc2⟩ : ∃ cur2, (cur1.toList.take (i * 3) ++ entCells k u ++ cur1.toList.drop (i * 3 + (entCells k u).length)).toArray = cur2 := ⟨_, rfl⟩
 rw [hc2] at hcp2
 obtain ⟨W2, hW2⟩ : ∃ W2, W1.setRow g cur2 = W2 := ⟨_, rfl⟩
 rw [hW2] at hcp2
 have HEND : Aside0 (W2.ownsRow base 144 3 (.slice (some ⟨g, 0, none⟩) (n + 1) cap) (n + 1) (cs.take (i * 3) ++ entCells k u ++ cs.drop (i * 3)) ∧ w.grownBy W2 (some g)) := ⟨by
  refine ⟨⟨?_, .inr ⟨g, cap, cur2, rfl, hbg, by rw [← hW2]; exact setRow_at hcur1 cur2, hroom, hmx, ?_, ?_⟩⟩, ?_⟩
  ·
   simp only [List.length_append, hdl, hdl2, List.length_cons, List.length_nil]; omega
  ·
   rw [← Array.length_toList, ← hc2]
   simp only [List.length_append, List.length_take, List.length_drop, List.length_cons, List.length_nil, hcl1]; omega
  ·
   rw [← hc2, ← h1a, ← h1b]
   simp only []
   rw [show (n + 1) * 3 = (i * 3 + 3) + (n - i) * 3 by omega]
   have hl : (cur1.toList.take (i * 3) ++ entCells k u).length = i * 3 + 3 := by simp only [List.length_append, List.length_take, List.length_cons, List.length_nil, hcl1]; omega
   rw [show i * 3 + (entCells k u).length = i * 3 + 3 from rfl, ← hl, List.take_length_add_append]
  ·
   rw [← hW2]
   have h2 := setRow_grown W1 g cur2
   exact ⟨h2.os.trans hg1.os, h2.tape.trans hg1.tape, h2.output.trans hg1.output, Nat.le_trans hg1.size h2.size, fun q hq hqn => (h2.block q (Nat.lt_of_lt_of_le hq hg1.size) hqn).trans (hg1.block q hq hqn)⟩⟩
 have HCP1 := Aside0.mk hcp1
 have HCP2 := Aside0.mk hcp2
 clear hcp1 hcp2 hW2 hc2 hg1 hE1 hcur1 hW1 h1a h1b hcl1 hc1 hcul hdl hdl2 hcell hfE hshE hshG hsize hcur htk hsz hcl hmin1 hmin2
 have hz1 : ((i : Int) == (n : Int)) = false := beq_eq_false_iff_ne.2 (by omega)
 have hz2 : decide ((n : Int) + 1 > (cap : Int)) = false := decide_eq_false (by omega)
 have hz3 : decide ((cap : Int) < (n : Int) + 1) = false := decide_eq_false (by omega)
 obtain ⟨rs, HRS⟩ : ∃ rs, Aside0 (cs.take (i * 3) ++ entCells k u ++ cs.drop (i * 3) = rs) := ⟨_, ⟨rfl⟩⟩
 rw [HRS.out] at HEND ⊢
 have hij : (i : Int) + 1 = (j : Int) := by omega
 have hjn : j ≤ n + 1 := by omega
 have hjc : ¬ (cap = j) := by omega
 have hic : ¬ (cap = i) := by omega
 have hin : i ≤ n + 1 := by omega
 have hjn2 : (j : Int) ≤ (n : Int) + 1 := by omega
 have hin2 : (i : Int) ≤ (n : Int) + 1 := by omega
 have hjn3 : j ≤ n := by omega
 clear hj
 go_enter Tryd.func104, Tryd.ntmps104
 go_wp2_with (simp only [hov])
 refine AnyOrder.wp_region (by kernel_rfl) (shiftInv w W1 g gE n cap i j _ _ _ _ _ _ _ _ _ _ _ _ _ _ _ _ _ _ _ _ _ _ _ _ _ _ _ _ _ _ _ _ _ _ _ _ _ _ _ _ _ _ _ _ _ _ _ _ _ _ _ _ _ _ _ _ _ _ _) ⟨false, false, false, false, false, false, false, false, false, rfl, rfl, ⟨⟨fun h => (by cases h), fun _ => rfl⟩⟩⟩ ?step ?last
 case step =>
  rintro L ac V i ⟨l0, l1, l2, l3, l4, l5, l6, l7, l8, rfl, rfl, HF⟩ hi K hK
  have h1 : i = 0 ∨ i = 1 ∨ i = 2 ∨ i = 3 ∨ i = 4 ∨ i = 5 ∨ i = 6 ∨ i = 7 ∨ i = 8 := by
   have h1 := (AnyOrder.mem_ready hi).1
   clear hi hK
   change i < 9 at h1
   omega
  rcases h1 with rfl | rfl | rfl | rfl | rfl | rfl | rfl | rfl | rfl
  ·
   obtain rfl : l0 = false := (AnyOrder.mem_ready hi).2.1
   clear hi
   refine AnyOrder.wpOp_go rfl (by rfl) ?_
   go_wp2_with fail
   exact ⟨true, l1, l2, l3, l4, l5, l6, l7, l8, rfl, rfl, HF⟩
  ·
   obtain rfl : l1 = false := (AnyOrder.mem_ready hi).2.1
   clear hi
   refine AnyOrder.wpOp_go rfl (by rfl) ?_
   go_wp2_with fail
   exact ⟨l0, true, l2, l3, l4, l5, l6, l7, l8, rfl, rfl, HF⟩
  ·
   obtain rfl : l2 = false := (AnyOrder.mem_ready hi).2.1
   clear hi
   refine AnyOrder.wpOp_go rfl (by rfl) ?_
   go_wp2_with fail
   exact ⟨l0, l1, true, l3, l4, l5, l6, l7, l8, rfl, rfl, HF⟩
  ·
   obtain rfl : l3 = false := (AnyOrder.mem_ready hi).2.1
   obtain rfl : l1 = true := AnyOrder.dep (q := 0) hi rfl rfl rfl
   obtain rfl : l2 = true := AnyOrder.dep (q := 1) hi rfl rfl rfl
   clear hi
   simp only [sel_true, selv_true] at hK ⊢
   refine AnyOrder.wpOp_go rfl (by rfl) ?_
   go_wp2_with fail
   exact ⟨l0, true, true, true, l4, l5, l6, l7, l8, rfl, rfl, HF⟩
  ·
   obtain rfl : l4 = false := (AnyOrder.mem_ready hi).2.1
   obtain rfl : l0 = true := AnyOrder.dep (q := 0) hi rfl rfl rfl
   obtain rfl : l3 = true := AnyOrder.dep (q := 1) hi rfl rfl rfl
   clear hi
   simp only [sel_true, selv_true] at hK ⊢
   refine AnyOrder.wpOp_go rfl (by rfl) ?_
   go_wp2_with fail
   exact ⟨true, l1, l2, true, true, l5, l6, l7, l8, rfl, rfl, HF⟩
  ·
   obtain rfl : l5 = false := (AnyOrder.mem_ready hi).2.1
   clear hi
   refine AnyOrder.wpOp_go rfl (by rfl) ?_
   go_wp2_with fail
   exact ⟨l0, l1, l2, l3, l4, true, l6, l7, l8, rfl, rfl, HF⟩
  ·
   obtain rfl : l6 = false := (AnyOrder.mem_ready hi).2.1
   clear hi
   refine AnyOrder.wpOp_go rfl (by rfl) ?_
   go_wp2_with fail
   exact ⟨l0, l1, l2, l3, l4, l5, true, l7, l8, rfl, rfl, HF⟩
  ·
   obtain rfl : l7 = false := (AnyOrder.mem_ready hi).2.1
   obtain rfl : l5 = true := AnyOrder.dep (q := 0) hi rfl rfl rfl
   obtain rfl : l6 = true := AnyOrder.dep (q := 1) hi rfl rfl rfl
   clear hi
   simp only [sel_true, selv_true] at hK ⊢
   refine AnyOrder.wpOp_go rfl (by rfl) ?_
   go_wp2_with fail
   exact ⟨l0, l1, l2, l3, l4, true, true, true, l8, rfl, rfl, HF⟩
  ·
   obtain rfl : l8 = false := (AnyOrder.mem_ready hi).2.1
   obtain rfl : l4 = true := AnyOrder.dep (q := 0) hi rfl rfl rfl
   obtain rfl : l7 = true := AnyOrder.dep (q := 1) hi rfl rfl rfl
   clear hi
   simp only [sel_true, selv_true] at hK ⊢
   obtain rfl := HF.out.2 rfl
   refine AnyOrder.wpOp_go rfl (by rfl) ?_
   refine wp_copy_eq (.tmp 73) (.tmp 76) 139 rfl rfl rfl (HCP1.out) ?_
   exact hK _ _ ⟨l0, l1, l2, l3, true, l5, l6, true, true, rfl, rfl, ⟨⟨fun _ => rfl, fun h => (by cases h)⟩⟩⟩
 case last =>
  rintro L ac V ⟨l0, l1, l2, l3, l4, l5, l6, l7, l8, rfl, rfl, HF⟩ hr
  have hall := AnyOrder.all_listed rfl (by kernel_rfl) hr
  clear hr
  obtain rfl : l0 = true := hall 0 (by decide)
  obtain rfl : l1 = true := hall 1 (by decide)
  obtain rfl : l2 = true := hall 2 (by decide)
  obtain rfl : l3 = true := hall 3 (by decide)
  obtain rfl : l4 = true := hall 4 (by decide)
  obtain rfl : l5 = true := hall 5 (by decide)
  obtain rfl : l6 = true := hall 6 (by decide)
  obtain rfl : l7 = true := hall 7 (by decide)
  obtain rfl : l8 = true := hall 8 (by decide)
  clear hall
  simp only [sel_true, selv_true]
  obtain rfl := HF.out.1 rfl
  have hcp2 := HCP2.out
  go_wp2
  go_ret
  exact ⟨_, rfl, HEND.out⟩
def grownInv (W2 W3 : World) (N g gE n G cap i j : Nat) (z10 z11 z12 z13 z14 z15 z16 z17 z18 z19 z20 z21 z22 z23 z24 z25 z26 z27 z28 z29 z30 z31 z32 z33 z34 z35 z36 z37 z38 z39 z40 z41 z42 z43 z44 z45 : Value) (L : Array Bool) (ac : Act) (V : World) : Prop := ∃ (l0 l1 l2 l3 l4 l5 l6 l7 l8 : Bool), L = #[l0, l1, l2, l3, l4, l5, l6, l7, l8] ∧ ac = { tmps := #[.slice (some ⟨g, 0, none⟩) n cap, .int .i64 i, .slice (some ⟨gE, 0, none⟩) 1 1, undef, undef, undef, .slice none 0 0, .int .i64 1, .int .i64 n, .slice (some ⟨N, 0, none⟩) (n + 1) G, z10, z11, z12, z13, z14, z15, z16, z17, z18, z19, z20, z21, z22, z23, z24, z25, z26, z27, z28, z29, z30, z31, z32, z33, z34, z35, z36, z37, z38, z39, z40, z41, z42, z43, z44, z45, sel l0 (.slice (some ⟨N, 0, none⟩) (n + 1) G), sel l1 (.int .i64 i), sel l2 (.int .i64 1), sel l3 (.int .i64 j), sel l4 (.slice (some ⟨N, j * 3, none⟩) (n + 1 - j) (G - j)), sel l5 (.slice (some ⟨g, 0, none⟩) n cap), sel l6 (.int .i64 i), sel l7 (.slice (some ⟨g, i * 3, none⟩) (n - i) (cap - i)), sel l8 (goInt ((n - i : Nat) : Int)), undef, undef, undef, undef, undef, undef, undef, undef, undef, undef, undef, undef, undef, undef, undef, undef, undef, undef, undef, undef, undef, undef, undef, undef, undef, undef, undef, undef, undef, undef, undef, undef, undef, undef, undef, undef, undef, undef, undef, undef], defers := [] } ∧ Aside0 ((l8 = true → V = W3) ∧ (l8 = false → V = W2.drew))
set_option maxHeartbeats 1000000 in
set_option maxRecDepth 100000 in
theorem insert_grow (base g n cap i : Nat) (cs : List Value) (k : Dot) (u : Value) (gE : Nat) (w : World) (ho : w.ownsRow base 144 3 (.slice (some ⟨g, 0, none⟩) n cap) n cs)
  (hE : w.heap[gE]? = some (.cells #[.int .i64 k.f0, .int .i64 k.f1, u] 144 (0, 0))) (hu1 : u.oneCell' = true) (hcs1 : ∀ v ∈ cs, v.oneCell' = true) (hn : n ≤ 1000000) (hi : i < n) (hroom : cap < n + 1) (hb : base ≤ w.heap.size) :
  Calls Tryd.prog 104 #[.slice (some ⟨g, 0, none⟩) n cap, .int .i64 i, .slice (some ⟨gE, 0, none⟩) 1 1] w fun e w' => ∃ v', e = .returned v' ∧ w'.ownsRow base 144 3 v' (n + 1) (cs.take (i * 3) ++ entCells k u ++ cs.drop (i * 3)) ∧ w.grownBy w' (some g) := by
 obtain ⟨hcl, ho⟩ := ho
 rcases ho with ⟨h, _⟩ | ⟨g', cap', cur, he, hbg, hcur, hle, hmx, hsz, htk⟩
 ·
  cases h
 cases he
 obtain ⟨i0, hi0, hz0, hzs, hzb⟩ := info_parts infoE
 have hsize : (Tryd.prog.info? 144).map (·.size) = some 3 := by rw [hi0]; simp [hzs]
 have hcell : ∀ j v, cs[j]? = some v → w.cell? ⟨g, j, none⟩ = some v := fun j v hj => by
  rw [blk_cell hcur, ← Array.getElem?_toList]
  rw [← htk, List.getElem?_take] at hj
  split at hj
  ·
   exact hj
  ·
   cases hj
 have hgl : g < w.heap.size := blk_lt hcur
 have hel : gE < w.heap.size := blk_lt hE
 have hdl : (cs.drop (i * 3)).length = (n - i) * 3 := by rw [List.length_drop, hcl]; omega
 have hdl2 : (cs.take (i * 3)).length = i * 3 := by rw [List.length_take, hcl]; omega
 obtain ⟨z, hz⟩ : ∃ z : Value, (Value.agg #[(.int .i64 0), (.int .i64 0), (.slice none 0 0)]) = z := ⟨_, rfl⟩
 have hzc : z.cells.size = 3 := by rw [← hz]; rfl
 rw [hz] at hz0
 have hold : (Builtin.firstCells i0.size i (.slice (some ⟨g, 0, none⟩) i cap)).run Tryd.prog w.drew = .ok (cs.take (i * 3)).toArray w.drew := by
  rw [hzs]
  exact run_firstCells_some w.drew 3 i ⟨g, 0, none⟩ i cap (cs.take (i * 3)) (by rw [hdl2]) (fun j v hj => by
   rw [add_lit, Nat.zero_add]
   rw [List.getElem?_take] at hj
   split at hj
   ·
    exact hcell j v hj
   ·
    cases hj)
 obtain ⟨G, hG⟩ : ∃ G, G = grownCap w (n + 1) cap 144 := ⟨_, rfl⟩
 have hGn : n + 1 ≤ G := by rw [hG]; exact grownCap_ge w _ _ _
 have hGm : G ≤ maxLen := by rw [hG]; exact grownCap_le_maxLen w (n + 1) cap 144 (by unfold maxLen; omega)
 have hrz := Lib.run_append_grow_zeros w 139 3 139 144 i0 z .i64 .i64 Tryd.underlying139 Tryd.underlying3 hi0 hz0 (some ⟨g, 0, none⟩) i cap (cs.take (i * 3)) hold (n + 1 - i) (by omega) (by omega) (by omega) (by omega) (by rw [hzb]; omega) (by rw [hzb, show i + (n + 1 - i) = n + 1 by omega]; exact growslice_fits hroom (by omega))
 rw [show i + (n + 1 - i) = n + 1 by omega, ← hG] at hrz
 obtain ⟨ROW, hROW⟩ : ∃ ROW : Array Value, (cs.take (i * 3)).toArray ++ Builtin.zeroCells z.cells (n + 1 - i) ++ Builtin.zeroCells z.cells (G - (n + 1)) = ROW := ⟨_, rfl⟩
 rw [hROW] at hrz
 have hRs : ROW.size = G * 3 := by
  rw [← hROW, Array.size_append, Array.size_append, size_zeroCells, size_zeroCells, hzc, List.size_toArray, hdl2]; omega
 have hRl : ROW.toList.length = G * 3 := by rw [Array.length_toList]; exact hRs
 have hRt : ROW.toList.take (i * 3) = cs.take (i * 3) := by
  rw [← hROW, Array.toList_append, Array.toList_append, List.append_assoc]
  simp only []
  rw [List.take_left' hdl2]
 obtain ⟨W1, hW1⟩ : ∃ W1, w.drew.alloc (.cells ROW 144) = W1 := ⟨_, rfl⟩
 rw [hW1] at hrz
 obtain ⟨N, hN⟩ : ∃ N, w.heap.size = N := ⟨_, rfl⟩
 have hW1N : W1.heap[N]? = some (.cells ROW 144 (0, 0)) := by rw [← hW1, ← hN]; exact blk_new w.drew _
 have hW1o : ∀ q, q < N → W1.heap[q]? = w.heap[q]? := fun q hq => by rw [← hW1]; exact ((Below.refl _ w.drew).alloc (Nat.le_refl _) _).block q (by show q < w.heap.size; omega)
 have hW1b : Below w.heap.size w W1 := by rw [← hW1]; exact below_alloc (below_drew1 (Below.refl _ _)) _
 -- the first copy: the entry
 have hE1 : W1.heap[gE]? = some (.cells #[.int .i64 k.f0, .int .i64 k.f1, u] 144 (0, 0)) := (hW1o gE (by omega)).trans hE
 have hcp1 := run_copy_rowK (P := Tryd.prog) W1 139 139 3 144 3 N (i * 3) (n + 1 - i) (G - i) ⟨gE, 0, none⟩ 1 1 ROW 144 (entCells k u) Tryd.underlying139 hsize hW1N
  (by show 3 = _; simp only [Nat.min_def]; split <;> omega) (fun j v hj => entCells_at hE1 j v hj) (by rw [hRs]; show i * 3 + 3 ≤ _; omega) (entCells_one hu1)
 have hmin1 : Nat.min 1 (n + 1 - i) = 1 := by simp only [Nat.min_def]; split <;> omega
 rw [hmin1] at hcp1
 obtain ⟨cur1, hc1⟩ : ∃ cur1, (ROW.toList.take (i * 3) ++ entCells k u ++ ROW.toList.drop (i * 3 + (entCells k u).length)).toArray = cur1 := ⟨_, rfl⟩
 rw [hc1] at hcp1
 have hcl1 : cur1.toList.length = G * 3 := by
  rw [← hc1]
  simp only [List.length_append, List.length_take, List.length_drop, List.length_cons, List.length_nil, hRl]; omega
 obtain ⟨j, hj⟩ : ∃ j, i + 1 = j := ⟨_, rfl⟩
 have h1a : cur1.toList.take (j * 3) = cs.take (i * 3) ++ entCells k u := by
  rw [← hc1, hRt]
  simp only []
  exact List.take_left' (by rw [List.length_append, hdl2]; show i * 3 + 3 = j * 3; omega)
 obtain ⟨W2, hW2⟩ : ∃ W2, W1.setRow N cur1 = W2 := ⟨_, rfl⟩
 rw [hW2] at hcp1
 have hW2N : W2.heap[N]? = some (.cells cur1 144 (0, 0)) := by rw [← hW2]; exact setRow_at hW1N cur1
 have hW2o : ∀ q, q < N → W2.heap[q]? = w.heap[q]? := fun q hq => by rw [← hW2]; exact (setRow_other W1 N q cur1 (by omega)).trans (hW1o q hq)
 have hg2 := setRow_grown W1 N cur1
 rw [hW2] at hg2
 -- the second one: what stood from i on
 have hcp2 := run_copy_rowK (P := Tryd.prog) W2.drew 139 139 3 144 3 N (j * 3) (n + 1 - j) (G - j) ⟨g, i * 3, none⟩ (n - i) (cap - i) cur1 144 (cs.drop (i * 3)) Tryd.underlying139 hsize hW2N
  (by rw [hdl]; congr 1; simp only [Nat.min_def]; split <;> omega)
  (fun q v hq => by
   rw [add_lit]
   have := hcell _ v (by rwa [List.getElem?_drop] at hq)
   rw [← this]
   exact World.cell?_of_block (w := w) (hW2o g (by omega)))
  (by rw [hdl, ← Array.length_toList, hcl1]; omega) (fun v hv => hcs1 v (List.mem_of_mem_drop hv))
 have hmin2 : Nat.min (n - i) (n + 1 - j) = n - i := by simp only [Nat.min_def]; split <;> omega
 rw [hmin2] at hcp2
 obtain ⟨cur2, hc2⟩ : ∃ cur2, (cur1.toList.take (j * 3) ++ cs.drop (i * 3) ++ cur1.toList.drop (j * 3 + (cs.drop (i * 3)).length)).toArray = cur2 := ⟨_, rfl⟩
 rw [hc2] at hcp2
 obtain ⟨W3, hW3⟩ : ∃ W3, W2.drew.setRow N cur2 = W3 := ⟨_, rfl⟩
 rw [hW3] at hcp2
 have hg3 := setRow_grown W2.drew N cur2
 rw [hW3] at hg3
 have HEND : Aside0 (W3.ownsRow base 144 3 (.slice (some ⟨N, 0, none⟩) (n + 1) G) (n + 1) (cs.take (i * 3) ++ entCells k u ++ cs.drop (i * 3)) ∧ w.grownBy W3 (some g)) := ⟨by
  refine ⟨⟨?_, .inr ⟨N, G, cur2, rfl, by omega, by rw [← hW3]; exact setRow_at (show W2.drew.heap[N]? = _ from hW2N) cur2, hGn, hGm, ?_, ?_⟩⟩, ?_⟩
  ·
   simp only [List.length_append, hdl, hdl2, List.length_cons, List.length_nil]; omega
  ·
   rw [← Array.length_toList, ← hc2]
   simp only [List.length_append, List.length_take, List.length_drop, List.length_cons, List.length_nil, hcl1, hcl]; omega
  ·
   rw [← hc2, h1a]
   simp only []
   exact List.take_left' (by simp only [List.length_append, hdl, hdl2, List.length_cons, List.length_nil]; omega)
  ·
   exact ⟨hg3.os.trans (hg2.os.trans hW1b.os), hg3.tape.trans (hg2.tape.trans hW1b.tape), hg3.output.trans (hg2.output.trans hW1b.output), Nat.le_trans hW1b.size (Nat.le_trans hg2.size hg3.size), fun q hq _ => by
    have h3 := hg3.block q (by show q < W2.heap.size; have := hg2.size; have := hW1b.size; omega) (fun e => by cases e; omega)
    exact h3.trans (hW2o q (by omega))⟩⟩
 obtain ⟨rs, HRS⟩ : ∃ rs, Aside0 (cs.take (i * 3) ++ entCells k u ++ cs.drop (i * 3) = rs) := ⟨_, ⟨rfl⟩⟩
 rw [HRS.out] at HEND ⊢
 rw [hN] at hrz
 have HRZ := Aside0.mk hrz
 have HCP1 := Aside0.mk hcp1
 have HCP2 := Aside0.mk hcp2
 have HGM : Aside0 (G ≤ 9223372036854775807) := ⟨by unfold maxLen at hGm; omega⟩
 clear hG hcp1 hcp2 hrz hg2 hg3 hW3 hW2 hW1 hc1 hc2 h1a hcl1 hRl hRt hRs hROW hold hz hzc hz0 hzs hzb hi0 hsize hcell hdl hdl2 hW1b hW1o hW1N hE1 hW2N hW2o hcur htk hsz hcl hE hmin1 hmin2 hmx hGm hgl hel hbg hN hb
 have hz1 : ((i : Int) == (n : Int)) = false := beq_eq_false_iff_ne.2 (by omega)
 have hz2 : decide ((n : Int) + 1 > (cap : Int)) = true := decide_eq_true (by omega)
 have hz3 : decide ((cap : Int) < (n : Int) + 1) = true := decide_eq_true (by omega)
 have hij : (i : Int) + 1 = (j : Int) := by omega
 have hjn : j ≤ n + 1 := by omega
 have hjc : ¬ (G = j) := by omega
 have hic : ¬ (G = i) := by omega
 have hin : i ≤ n + 1 := by omega
 have hjn2 : (j : Int) ≤ (n : Int) + 1 := by omega
 have hin2 : (i : Int) ≤ (n : Int) + 1 := by omega
 have hic2 : ¬ (cap = i) := by omega
 have hkk : (n : Int) + 1 - (i : Int) = ((n + 1 - i : Nat) : Int) := by omega
 have hcp1 := HCP1.out
 clear hj
 go_enter Tryd.func104, Tryd.ntmps104
 go_wp2_with (at_builtin; refine wpList_append_eq2 rfl (.tmp 34) (.tmp 39) 139 3 rfl rfl rfl HRZ.out ?_)
 refine AnyOrder.wp_region (by kernel_rfl) (grownInv W2 W3 N g gE n G cap i j _ _ _ _ _ _ _ _ _ _ _ _ _ _ _ _ _ _ _ _ _ _ _ _ _ _ _ _ _ _ _ _ _ _ _ _) ⟨false, false, false, false, false, false, false, false, false, rfl, rfl, ⟨⟨fun h => (by cases h), fun _ => rfl⟩⟩⟩ ?step ?last
 case step =>
  rintro L ac V i ⟨l0, l1, l2, l3, l4, l5, l6, l7, l8, rfl, rfl, HF⟩ hi K hK
  have h1 : i = 0 ∨ i = 1 ∨ i = 2 ∨ i = 3 ∨ i = 4 ∨ i = 5 ∨ i = 6 ∨ i = 7 ∨ i = 8 := by
   have h1 := (AnyOrder.mem_ready hi).1
   clear hi hK
   change i < 9 at h1
   omega
  rcases h1 with rfl | rfl | rfl | rfl | rfl | rfl | rfl | rfl | rfl
  ·
   obtain rfl : l0 = false := (AnyOrder.mem_ready hi).2.1
   clear hi
   refine AnyOrder.wpOp_go rfl (by rfl) ?_
   go_wp2_with fail
   exact ⟨true, l1, l2, l3, l4, l5, l6, l7, l8, rfl, rfl, HF⟩
  ·
   obtain rfl : l1 = false := (AnyOrder.mem_ready hi).2.1
   clear hi
   refine AnyOrder.wpOp_go rfl (by rfl) ?_
   go_wp2_with fail
   exact ⟨l0, true, l2, l3, l4, l5, l6, l7, l8, rfl, rfl, HF⟩
  ·
   obtain rfl : l2 = false := (AnyOrder.mem_ready hi).2.1
   clear hi
   refine AnyOrder.wpOp_go rfl (by rfl) ?_
   go_wp2_with fail
   exact ⟨l0, l1, true, l3, l4, l5, l6, l7, l8, rfl, rfl, HF⟩
  ·
   obtain rfl : l3 = false := (AnyOrder.mem_ready hi).2.1
   obtain rfl : l1 = true := AnyOrder.dep (q := 0) hi rfl rfl rfl
   obtain rfl : l2 = true := AnyOrder.dep (q := 1) hi rfl rfl rfl
   clear hi
   simp only [sel_true, selv_true] at hK ⊢
   refine AnyOrder.wpOp_go rfl (by rfl) ?_
   go_wp2_with fail
   exact ⟨l0, true, true, true, l4, l5, l6, l7, l8, rfl, rfl, HF⟩
  ·
   obtain rfl : l4 = false := (AnyOrder.mem_ready hi).2.1
   obtain rfl : l0 = true := AnyOrder.dep (q := 0) hi rfl rfl rfl
   obtain rfl : l3 = true := AnyOrder.dep (q := 1) hi rfl rfl rfl
   clear hi
   simp only [sel_true, selv_true] at hK ⊢
   refine AnyOrder.wpOp_go rfl (by rfl) ?_
   go_wp2_with fail
   exact ⟨true, l1, l2, true, true, l5, l6, l7, l8, rfl, rfl, HF⟩
  ·
   obtain rfl : l5 = false := (AnyOrder.mem_ready hi).2.1
   clear hi
   refine AnyOrder.wpOp_go rfl (by rfl) ?_
   go_wp2_with fail
   exact ⟨l0, l1, l2, l3, l4, true, l6, l7, l8, rfl, rfl, HF⟩
  ·
   obtain rfl : l6 = false := (AnyOrder.mem_ready hi).2.1
   clear hi
   refine AnyOrder.wpOp_go rfl (by rfl) ?_
   go_wp2_with fail
   exact ⟨l0, l1, l2, l3, l4, l5, true, l7, l8, rfl, rfl, HF⟩
  ·
   obtain rfl : l7 = false := (AnyOrder.mem_ready hi).2.1
   obtain rfl : l5 = true := AnyOrder.dep (q := 0) hi rfl rfl rfl
   obtain rfl : l6 = true := AnyOrder.dep (q := 1) hi rfl rfl rfl
   clear hi
   simp only [sel_true, selv_true] at hK ⊢
   refine AnyOrder.wpOp_go rfl (by rfl) ?_
   go_wp2_with fail
   exact ⟨l0, l1, l2, l3, l4, true, true, true, l8, rfl, rfl, HF⟩
  ·
   obtain rfl : l8 = false := (AnyOrder.mem_ready hi).2.1
   obtain rfl : l4 = true := AnyOrder.dep (q := 0) hi rfl rfl rfl
   obtain rfl : l7 = true := AnyOrder.dep (q := 1) hi rfl rfl rfl
   clear hi
   simp only [sel_true, selv_true] at hK ⊢
   obtain rfl := HF.out.2 rfl
   refine AnyOrder.wpOp_go rfl (by rfl) ?_
   refine wp_copy_eq (.tmp 50) (.tmp 53) 139 rfl rfl rfl (HCP2.out) ?_
   exact hK _ _ ⟨l0, l1, l2, l3, true, l5, l6, true, true, rfl, rfl, ⟨⟨fun _ => rfl, fun h => (by cases h)⟩⟩⟩
 case last =>
  rintro L ac V ⟨l0, l1, l2, l3, l4, l5, l6, l7, l8, rfl, rfl, HF⟩ hr
  have hall := AnyOrder.all_listed rfl (by kernel_rfl) hr
  clear hr
  obtain rfl : l0 = true := hall 0 (by decide)
  obtain rfl : l1 = true := hall 1 (by decide)
  obtain rfl : l2 = true := hall 2 (by decide)
  obtain rfl : l3 = true := hall 3 (by decide)
  obtain rfl : l4 = true := hall 4 (by decide)
  obtain rfl : l5 = true := hall 5 (by decide)
  obtain rfl : l6 = true := hall 6 (by decide)
  obtain rfl : l7 = true := hall 7 (by decide)
  obtain rfl : l8 = true := hall 8 (by decide)
  clear hall
  simp only [sel_true, selv_true]
  obtain rfl := HF.out.1 rfl
  go_wp2
  go_ret
  exact ⟨_, rfl, HEND.out⟩
end Go.Proofs.YtjlpaagnajmogaaDoor.PWalk
end
