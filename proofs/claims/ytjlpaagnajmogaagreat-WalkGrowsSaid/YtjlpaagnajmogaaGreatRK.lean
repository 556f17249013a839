/-
  A store with a further node, the child of a reached one or of the root at a time greater than all others: it follows directly on its parent, and nothing else changes in the order; for every list of nodes, number and dot. Part 11 of 11.
-/
import Derived.Test.YtjlpaagnajmogaaGreatRJ
import Derived.Deep.Cut
import Derived.Test.YtjlpaagnajmogaaGreatRows
import Derived.WalkKit
import Derived.ProofKit
import Derived.OpenShut
import Derived.ShutString
import Derived.ChangeOld
import Derived.Below
import Derived.SizedLaws
import Derived.Deep.DeepHandedRow
import Derived.Deep.Slices
import Derived.Lib.SmallJoins
section
namespace Go.Proofs.YtjlpaagnajmogaaGreat.PWalk
open Go.RowKit Go.Proofs.YtjlpaagnajmogaaGreatW.PrintWords Go.Proofs.YtjlpaagnajmogaaGreatW.PrintLast Go.Proofs.YtjlpaagnajmogaaGreatW.PrintMore
set_option linter.unusedVariables false
set_option linter.unusedSimpArgs false
open Go.Shelf
attribute [local go_sem] Oper.semAt_some
def redpencilref11_Children.f (l0 : List Node) (a1_0 a1_1 : Int) : Option (List Node) := if l0.length ≤ 400000 then some (kids l0 ⟨a1_0, a1_1⟩) else none
/-- What has come up in the triple append. -/
structure RcF (W0 : World) (out : List Node) (x : Node) (k : Nat) (l0 l3 l8 l9 l10 l13 l14 : Bool) (g : Nat) (v1 v2 v3 : Value) (V : World) : Prop where
 ord9 : l9 = true → l3 = true ∧ l8 = true
 ord13 : l13 = true → l9 = true
 ord14 : l14 = true → l13 = true ∧ l0 = true ∧ l10 = true
 below : Below W0.heap.size W0 V
 r1 : l3 = true → l9 = false → RN V W0.heap.size v1 (out.take k)
 bx : l8 = true → l9 = false → V.heap[g]? = some (boxN x)
 r2 : l9 = true → l13 = false → RN V W0.heap.size v2 (out.take k ++ [x])
 r3 : l13 = true → RN V W0.heap.size v3 (insB x out)
theorem RcF.no {W0 : World} {out : List Node} {x : Node} {k : Nat} {l0 l3 l8 l9 l10 l13 l14 : Bool} {g : Nat} {v1 v2 v3 : Value} {V : World} (h : RcF W0 out x k l0 l3 l8 l9 l10 l13 l14 g v1 v2 v3 V) (hl : l3 = false ∨ l8 = false) : l9 = false ∧ l13 = false ∧ l14 = false := by
 have h9 : l9 = false := by
  cases l9 with
  | false => rfl
  | true => obtain ⟨rfl, rfl⟩ := h.ord9 rfl; rcases hl with e | e <;> cases e
 have h13 : l13 = false := by
  cases l13 with
  | false => rfl
  | true => have := h.ord13 rfl; rw [h9] at this; cases this
 refine ⟨h9, h13, ?_⟩
 cases l14 with
 | false => rfl
 | true => have := (h.ord14 rfl).1; rw [h13] at this; cases this
def rc7Inv (W0 : World) (ad : Addr) (ado : Addr) (n c0 i' k no co : Nat) (x y : Node) (b1 b2 : Bool) (z1 z2 z3 z4 z8 z9 z10 z11 z12 z13 z14 z15 z16 z17 z18 z19 z20 z21 z22 z23 z24 z25 z26 z27 z28 z29 z30 z31 z32 z33 z34 z35 z36 z37 z38 z39 z40 z41 z42 z43 z44 z45 z46 z47 z48 z49 z50 z51 z52 : Value) (L : Array Bool) (ac : Act) (V : World) : Prop := ∃ (l0 l1 l2 l3 l4 l5 l6 l7 l8 l9 l10 l11 l12 l13 l14 : Bool), L = #[l0, l1, l2, l3, l4, l5, l6, l7, l8, l9, l10, l11, l12, l13, l14] ∧ ac = { tmps := #[.slice (some ad) n c0, z1, z2, z3, z4, .slice (some ado) no co, .int .i64 (i' : Int), .int .i64 (k : Int), z8, z9, z10, z11, z12, z13, z14, z15, z16, z17, z18, z19, z20, selv l0 (.int .i64 (k : Int)) (z21), selv l1 (.slice (some ado) no co) (z22), selv l2 (.int .i64 (no : Int)) (z23), selv l3 (.bool b1) (z24), selv l4 (.bool b1) (z25), selv l5 (.slice (some ado) no co) (z26), selv l6 (.int .i64 (k : Int)) (z27), selv l7 (.pointer (some (ado.add (k * 6)))) (z28), selv l8 (vNode y) (z29), selv l9 (.slice (some ad) n c0) (z30), selv l10 (.int .i64 (i' : Int)) (z31), selv l11 (.pointer (some (ad.add (i' * 6)))) (z32), selv l12 (vNode x) (z33), selv l13 (.bool b2) (z34), selv l14 (.bool b2) (z35), z36, z37, z38, z39, z40, z41, z42, z43, z44, z45, z46, z47, z48, z49, z50, z51, z52], defers := [] } ∧ Aside0 (Below W0.heap.size W0 V)
def rc7eInv (W0 : World) (ad : Addr) (Ao : Option Addr) (n c0 i' k no co : Nat) (x y : Node) (b1 b2 : Bool) (z1 z2 z3 z4 z8 z9 z10 z11 z12 z13 z14 z15 z16 z17 z18 z19 z20 z21 z22 z23 z24 z25 z26 z27 z28 z29 z30 z31 z32 z33 z34 z35 z36 z37 z38 z39 z40 z41 z42 z43 z44 z45 z46 z47 z48 z49 z50 z51 z52 : Value) (L : Array Bool) (ac : Act) (V : World) : Prop := ∃ (l0 l1 l2 l3 l4 l5 l6 l7 l8 l9 l10 l11 l12 l13 l14 : Bool), L = #[l0, l1, l2, l3, l4, l5, l6, l7, l8, l9, l10, l11, l12, l13, l14] ∧ ac = { tmps := #[.slice (some ad) n c0, z1, z2, z3, z4, .slice Ao no co, .int .i64 (i' : Int), .int .i64 (k : Int), z8, z9, z10, z11, z12, z13, z14, z15, z16, z17, z18, z19, z20, selv l0 (.int .i64 (k : Int)) (z21), selv l1 (.slice Ao no co) (z22), selv l2 (.int .i64 (no : Int)) (z23), selv l3 (.bool b1) (z24), selv l4 (.bool b1) (z25), selv l5 (undef) (z26), selv l6 (undef) (z27), selv l7 (undef) (z28), selv l8 (undef) (z29), selv l9 (undef) (z30), selv l10 (undef) (z31), selv l11 (undef) (z32), selv l12 (undef) (z33), selv l13 (undef) (z34), selv l14 (.bool b2) (z35), z36, z37, z38, z39, z40, z41, z42, z43, z44, z45, z46, z47, z48, z49, z50, z51, z52], defers := [] } ∧ Aside0 (Below W0.heap.size W0 V)
def rc9Inv (W0 : World) (ad : Addr) (Ao Ac : Option Addr) (n c0 i' k no co m3 q3 : Nat) (x : Node) (out : List Node) (z1 z2 z3 z4 z8 z9 z10 z11 z12 z13 z14 z15 z16 z17 z18 z19 z20 z21 z22 z23 z24 z25 z26 z27 z28 z29 z30 z31 z32 z33 z34 z35 z36 z37 z38 z39 z40 z41 z42 z43 z44 z45 z46 z47 z48 z49 z50 z51 z52 : Value) (L : Array Bool) (ac : Act) (V : World) : Prop := ∃ (l0 l1 l2 l3 l4 l5 l6 l7 l8 l9 l10 l11 l12 l13 l14 : Bool) (g : Nat) (v1 : Value) (v2 : Value) (v3 : Value), L = #[l0, l1, l2, l3, l4, l5, l6, l7, l8, l9, l10, l11, l12, l13, l14] ∧ ac = { tmps := #[.slice (some ad) n c0, z1, z2, z3, z4, selv l14 (v3) (.slice Ao no co), .int .i64 (i' : Int), .int .i64 (k : Int), z8, z9, z10, z11, z12, z13, z14, z15, z16, z17, z18, z19, z20, z21, z22, z23, z24, z25, z26, z27, z28, z29, z30, z31, z32, z33, z34, z35, z36, z37, selv l0 (.slice Ao no co) (z38), selv l1 (.int .i64 (k : Int)) (z39), selv l2 (.slice Ao k co) (z40), selv l3 (v1) (z41), selv l4 (.slice (some ad) n c0) (z42), selv l5 (.int .i64 (i' : Int)) (z43), selv l6 (.pointer (some (ad.add (i' * 6)))) (z44), selv l7 (vNode x) (z45), selv l8 (.slice (some ⟨g, 0, none⟩) 1 1) (z46), selv l9 (v2) (z47), selv l10 (.slice Ao no co) (z48), selv l11 (.int .i64 (k : Int)) (z49), selv l12 (.slice Ac m3 q3) (z50), selv l13 (v3) (z51), z52], defers := [] } ∧ Aside0 (RcF W0 out x k l0 l3 l8 l9 l10 l13 l14 g v1 v2 v3 V)
attribute [local go_sem high] eqA35 eqA24
set_option maxHeartbeats 4000000 in
set_option maxRecDepth 100000 in
theorem redpencilref11_Children.calls (A0 : Option Addr) (c0 : Nat) (l0 : List Node) (a1_0 a1_1 : Int) (r : List Node) (w : World) (hr0 : Kd.C k35 w A0 l0.length l0) (hc0 : l0.length ≤ c0) (h : redpencilref11_Children.f l0 a1_0 a1_1 = some r) :
  Calls Tryz.prog 19 #[.slice A0 l0.length c0, .agg #[.int .i64 a1_0, .int .i64 a1_1]] w fun e w' => ∃ v0_ : Value, e = .returned v0_ ∧ Kd.R k35 35 w' w.heap.size (fun _ => True) v0_ r ∧ Below w.heap.size w w' := by
 obtain ⟨d, hd⟩ : ∃ d : Dot, d = ⟨a1_0, a1_1⟩ := ⟨_, rfl⟩
 unfold redpencilref11_Children.f at h
 rw [← hd] at h
 rw [show a1_0 = d.f0 by rw [hd], show a1_1 = d.f1 by rw [hd]]
 clear hd
 by_cases hl : l0.length ≤ 400000
 rotate_left
 ·
  rw [if_neg hl] at h; cases h
 rw [if_pos hl] at h
 obtain rfl := Option.some.inj h
 have HR := Aside0.mk hr0
 have HL := Aside0.mk hl
 have HB0 := Aside0.mk (Gr.alloc w (dotC d)).below
 have HK0 := Aside0.mk (blk_new w (dotC d))
 clear h hr0 hc0 hl
 obtain ⟨n, Hn⟩ : ∃ n, Aside0 (l0.length = n) := ⟨_, ⟨rfl⟩⟩
 rw [Hn.out]
 have hn4 : n ≤ 400000 := by rw [← Hn.out]; exact HL.out
 go_enter Tryz.func19, Tryz.ntmps19
 go_wp2
 generalize w.alloc (dotC d) = W1 at *
 obtain ⟨B, HBe⟩ : ∃ B, Aside0 (w.heap.size = B) := ⟨_, ⟨rfl⟩⟩
 rw [HBe.out] at HK0
 rw [show (Value.pointer (some { block := w.heap.size, off := 0 })) = .pointer (some ⟨B, 0, none⟩) by rw [HBe.out]]
 go_loopw [5, 6] (fun o i wr => ∃ (i' : Nat) (Ao : Option Addr) (no co : Nat), i' ≤ n ∧ i = .int .i64 i' ∧ o = .slice Ao no co ∧ Aside0 (RN wr w.heap.size (.slice Ao no co) (kids (l0.take i') d)) ∧ Aside0 (wr.heap[B]? = some (dotC d)) ∧ Aside0 (Below w.heap.size w wr)) (fun _ i _ => n - (intOf i).toNat)
 case atStart => exact ⟨0, none, 0, 0, Nat.zero_le _, rfl, rfl, ⟨Kd.R_nil _ _ _ _ _⟩, HK0, HB0⟩
 case round =>
  obtain ⟨i', Ao, no, co, hi', rfl, rfl, HO, HK, HB⟩ := hrel
  by_cases hlt : i' < n
  ·
   have hltb : decide ((i' : Int) < (n : Int)) = true := decide_eq_true (by omega)
   obtain ⟨x, Hx⟩ : ∃ x, Aside0 (l0[i']? = some x) := ⟨_, ⟨List.getElem?_eq_getElem (by rw [Hn.out]; exact hlt)⟩⟩
   obtain ⟨ad, e, g0, g1, g2, g3, g4, g5⟩ := node_at HR.out HB.out i' x Hx.out
   subst e
   have k0 : wr.cell? ⟨B, 0, none⟩ = _ := (blk_cell HK.out 0).trans rfl
   have k1 : wr.cell? ⟨B, 1, none⟩ = _ := (blk_cell HK.out 1).trans rfl
   have HST : Aside0 (kids (l0.take (i' + 1)) d = if x.f1 = d then insB x (kids (l0.take i') d) else kids (l0.take i') d) := ⟨kids_take_succ Hx.out⟩
   have HOC := Aside0.mk (RN.C HO.out)
   have HNO : Aside0 (no ≤ 400000) := ⟨by have h1 := HOC.out.1; have h2 := kids_le (l0.take i') d; rw [List.length_take] at h2; omega⟩
   by_cases hxd : x.f1 = d
   ·
    have hne : (x.f1.f0 == d.f0 && (x.f1.f1 == d.f1)) = true := by rw [hxd]; simp
    have HXD := Aside0.mk hxd
    go_wp2
    go_quiet (fail)
    have hdq := (Gr.drawn (w := wr) ⟨nq, rfl⟩).below
    go_wp2
    clear hxd hne k0 k1 g0 g1 g2 g3 g4 g5
    have HHB := Aside0.mk (below_more HB.out hdq)
    have HHO := Aside0.mk (RN.below' HO.out hdq)
    have HHK := Aside0.mk (blk_keep HK.out hdq)
    have HHd := Aside0.mk hdq
    rw [if_pos HXD.out] at HST
    have HXI : Aside0 (i' < n ∧ n ≤ 400000) := ⟨hlt, hn4⟩
    clear hdq
    generalize wr.drewN nq = W2 at *
    go_loopw [7] (fun j wr => ∃ k : Nat, k ≤ no ∧ j = .int .i64 k ∧ Aside0 (∀ q y, q < k → (kids (l0.take i') d)[q]? = some y → nodeLt y x = true) ∧ Aside0 (Below W2.heap.size W2 wr)) (fun j _ => no - (intOf j).toNat)
    case atStart => exact ⟨0, Nat.zero_le _, rfl, ⟨fun q y hq => absurd hq (Nat.not_lt_zero _)⟩, ⟨Below.refl _ _⟩⟩
    case round =>
     obtain ⟨k, hk, rfl, HPRE, HB2⟩ := hrel
     by_cases hkl : k < no
     ·
      obtain ⟨y, Hy⟩ : ∃ y, Aside0 ((kids (l0.take i') d)[k]? = some y) := ⟨_, ⟨List.getElem?_eq_getElem (by rw [HOC.out.1]; exact hkl)⟩⟩
      obtain ⟨ado, e, y0, y1, y2, y3, y4, y5⟩ := node_at (RN.C HHO.out).2.2 HB2.out k y Hy.out
      subst e
      obtain ⟨ad', e, g0, g1, g2, g3, g4, g5⟩ := node_at HR.out (below_more HHB.out HB2.out) i' x Hx.out
      cases e
      have HY := Aside0.mk (And.intro y0 (And.intro y1 (And.intro y2 (And.intro y3 (And.intro y4 y5)))))
      have HG := Aside0.mk (And.intro g0 (And.intro g1 (And.intro g2 (And.intro g3 (And.intro g4 g5)))))
      have HKN : Aside0 (k < no ∧ no ≤ 400000) := ⟨hkl, HNO.out⟩
      clear y0 y1 y2 y3 y4 y5 g0 g1 g2 g3 g4 g5
      obtain ⟨b, Hb⟩ : ∃ b, Aside0 (nodeLt y x = b) := ⟨_, ⟨rfl⟩⟩
      cases b with
      | true =>
       go_wp2
       refine AnyOrder.wp_region (by kernel_rfl) (rc7Inv wr.drew ad ado n c0 i' k no co x y true true _ _ _ _ _ _ _ _ _ _ _ _ _ _ _ _ _ _ _ _ _ _ _ _ _ _ _ _ _ _ _ _ _ _ _ _ _ _ _ _ _ _ _ _ _ _ _ _ _) ⟨false, false, false, false, false, false, false, false, false, false, false, false, false, false, false, rfl, rfl, ⟨Below.refl _ _⟩⟩ ?step ?last
       case step =>
        rintro L ac V i ⟨l0, l1, l2, l3, l4, l5, l6, l7, l8, l9, l10, l11, l12, l13, l14, rfl, rfl, HF⟩ hi K hK
        have h1 : i = 0 ∨ i = 1 ∨ i = 2 ∨ i = 3 ∨ i = 4 ∨ i = 5 ∨ i = 6 ∨ i = 7 ∨ i = 8 ∨ i = 9 ∨ i = 10 ∨ i = 11 ∨ i = 12 ∨ i = 13 ∨ i = 14 := by
         have h1 := (AnyOrder.mem_ready hi).1
         clear hi hK
         change i < 15 at h1
         omega
        rcases h1 with rfl | rfl | rfl | rfl | rfl | rfl | rfl | rfl | rfl | rfl | rfl | rfl | rfl | rfl | rfl
        ·
         obtain rfl : l0 = false := (AnyOrder.mem_ready hi).2.1
         clear hi
         refine AnyOrder.wpOp_go rfl (by rfl) ?_
         go_wp2_with fail
         exact ⟨true, l1, l2, l3, l4, l5, l6, l7, l8, l9, l10, l11, l12, l13, l14, rfl, rfl, HF⟩
        ·
         obtain rfl : l1 = false := (AnyOrder.mem_ready hi).2.1
         clear hi
         refine AnyOrder.wpOp_go rfl (by rfl) ?_
         go_wp2_with fail
         exact ⟨l0, true, l2, l3, l4, l5, l6, l7, l8, l9, l10, l11, l12, l13, l14, rfl, rfl, HF⟩
        ·
         obtain rfl : l2 = false := (AnyOrder.mem_ready hi).2.1
         obtain rfl : l1 = true := AnyOrder.dep (q := 0) hi rfl rfl rfl
         clear hi
         simp only [sel_true, selv_true] at hK ⊢
         refine AnyOrder.wpOp_go rfl (by rfl) ?_
         go_wp2_with fail
         exact ⟨l0, true, true, l3, l4, l5, l6, l7, l8, l9, l10, l11, l12, l13, l14, rfl, rfl, HF⟩
        ·
         obtain rfl : l3 = false := (AnyOrder.mem_ready hi).2.1
         obtain rfl : l0 = true := AnyOrder.dep (q := 0) hi rfl rfl rfl
         obtain rfl : l2 = true := AnyOrder.dep (q := 1) hi rfl rfl rfl
         clear hi
         simp only [sel_true, selv_true] at hK ⊢
         have hdec : decide ((k : Int) < (no : Int)) = true := decide_eq_true (by omega)
         refine AnyOrder.wpOp_go rfl (by rfl) ?_
         go_wp2_with fail
         exact ⟨true, l1, true, true, l4, l5, l6, l7, l8, l9, l10, l11, l12, l13, l14, rfl, rfl, HF⟩
        ·
         obtain rfl : l4 = false := (AnyOrder.mem_ready hi).2.1
         obtain rfl : l3 = true := AnyOrder.dep (q := 0) hi rfl rfl rfl
         clear hi
         simp only [sel_true, selv_true] at hK ⊢
         refine AnyOrder.wpOp_go rfl (by rfl) ?_
         go_wp2_with fail
         exact ⟨l0, l1, l2, true, true, l5, l6, l7, l8, l9, l10, l11, l12, l13, l14, rfl, rfl, HF⟩
        ·
         obtain rfl : l5 = false := (AnyOrder.mem_ready hi).2.1
         obtain rfl : l4 = true := AnyOrder.dep (q := 0) hi rfl rfl rfl
         clear hi
         simp only [sel_true, selv_true] at hK ⊢
         refine AnyOrder.wpOp_go rfl (by rfl) ?_
         go_wp2_with fail
         exact ⟨l0, l1, l2, l3, true, true, l6, l7, l8, l9, l10, l11, l12, l13, l14, rfl, rfl, HF⟩
        ·
         obtain rfl : l6 = false := (AnyOrder.mem_ready hi).2.1
         obtain rfl : l4 = true := AnyOrder.dep (q := 0) hi rfl rfl rfl
         clear hi
         simp only [sel_true, selv_true] at hK ⊢
         refine AnyOrder.wpOp_go rfl (by rfl) ?_
         go_wp2_with fail
         exact ⟨l0, l1, l2, l3, true, l5, true, l7, l8, l9, l10, l11, l12, l13, l14, rfl, rfl, HF⟩
        ·
         obtain rfl : l7 = false := (AnyOrder.mem_ready hi).2.1
         obtain rfl : l5 = true := AnyOrder.dep (q := 0) hi rfl rfl rfl
         obtain rfl : l6 = true := AnyOrder.dep (q := 1) hi rfl rfl rfl
         obtain rfl : l4 = true := AnyOrder.dep (q := 2) hi rfl rfl rfl
         clear hi
         simp only [sel_true, selv_true] at hK ⊢
         have hkk := HKN.out.1
         have hkl2 := HKN.out.2
         refine AnyOrder.wpOp_go rfl (by rfl) ?_
         go_wp2_with fail
         exact ⟨l0, l1, l2, l3, true, true, true, true, l8, l9, l10, l11, l12, l13, l14, rfl, rfl, HF⟩
        ·
         obtain rfl : l8 = false := (AnyOrder.mem_ready hi).2.1
         obtain rfl : l7 = true := AnyOrder.dep (q := 0) hi rfl rfl rfl
         obtain rfl : l4 = true := AnyOrder.dep (q := 1) hi rfl rfl rfl
         clear hi
         simp only [sel_true, selv_true] at hK ⊢
         obtain ⟨y0, y1, y2, y3, y4, y5⟩ := HY.out
         have y0 := pw_cell_below HF.out y0
         have y1 := pw_cell_below HF.out y1
         have y2 := pw_cell_below HF.out y2
         have y3 := pw_cell_below HF.out y3
         have y4 := pw_cell_below HF.out y4
         have y5 := pw_cell_below HF.out y5
         refine AnyOrder.wpOp_go rfl (by rfl) ?_
         go_wp2_with fail
         exact ⟨l0, l1, l2, l3, true, l5, l6, true, true, l9, l10, l11, l12, l13, l14, rfl, rfl, HF⟩
        ·
         obtain rfl : l9 = false := (AnyOrder.mem_ready hi).2.1
         obtain rfl : l4 = true := AnyOrder.dep (q := 0) hi rfl rfl rfl
         clear hi
         simp only [sel_true, selv_true] at hK ⊢
         refine AnyOrder.wpOp_go rfl (by rfl) ?_
         go_wp2_with fail
         exact ⟨l0, l1, l2, l3, true, l5, l6, l7, l8, true, l10, l11, l12, l13, l14, rfl, rfl, HF⟩
        ·
         obtain rfl : l10 = false := (AnyOrder.mem_ready hi).2.1
         obtain rfl : l4 = true := AnyOrder.dep (q := 0) hi rfl rfl rfl
         clear hi
         simp only [sel_true, selv_true] at hK ⊢
         refine AnyOrder.wpOp_go rfl (by rfl) ?_
         go_wp2_with fail
         exact ⟨l0, l1, l2, l3, true, l5, l6, l7, l8, l9, true, l11, l12, l13, l14, rfl, rfl, HF⟩
        ·
         obtain rfl : l11 = false := (AnyOrder.mem_ready hi).2.1
         obtain rfl : l9 = true := AnyOrder.dep (q := 0) hi rfl rfl rfl
         obtain rfl : l10 = true := AnyOrder.dep (q := 1) hi rfl rfl rfl
         obtain rfl : l4 = true := AnyOrder.dep (q := 2) hi rfl rfl rfl
         clear hi
         simp only [sel_true, selv_true] at hK ⊢
         have hkk := HXI.out.1
         have hkl2 := HXI.out.2
         refine AnyOrder.wpOp_go rfl (by rfl) ?_
         go_wp2_with fail
         exact ⟨l0, l1, l2, l3, true, l5, l6, l7, l8, true, true, true, l12, l13, l14, rfl, rfl, HF⟩
        ·
         obtain rfl : l12 = false := (AnyOrder.mem_ready hi).2.1
         obtain rfl : l11 = true := AnyOrder.dep (q := 0) hi rfl rfl rfl
         obtain rfl : l4 = true := AnyOrder.dep (q := 1) hi rfl rfl rfl
         clear hi
         simp only [sel_true, selv_true] at hK ⊢
         obtain ⟨g0, g1, g2, g3, g4, g5⟩ := HG.out
         have g0 := pw_cell_below HF.out g0
         have g1 := pw_cell_below HF.out g1
         have g2 := pw_cell_below HF.out g2
         have g3 := pw_cell_below HF.out g3
         have g4 := pw_cell_below HF.out g4
         have g5 := pw_cell_below HF.out g5
         refine AnyOrder.wpOp_go rfl (by rfl) ?_
         go_wp2_with fail
         exact ⟨l0, l1, l2, l3, true, l5, l6, l7, l8, l9, l10, true, true, l13, l14, rfl, rfl, HF⟩
        ·
         obtain rfl : l13 = false := (AnyOrder.mem_ready hi).2.1
         obtain rfl : l8 = true := AnyOrder.dep (q := 0) hi rfl rfl rfl
         obtain rfl : l12 = true := AnyOrder.dep (q := 1) hi rfl rfl rfl
         obtain rfl : l4 = true := AnyOrder.dep (q := 2) hi rfl rfl rfl
         clear hi
         simp only [sel_true, selv_true] at hK ⊢
         refine AnyOrder.wpOp_go rfl (by rfl) ?_
         go_wp2_with fail
         refine (redpencilref09_Before.calls _ _ _ _ _ _ _ _ _ _ _ _ true V (by rw [before_is, Hb.out])).mono ?_
         rintro e V' ⟨rfl, hb⟩
         exact hK _ _ ⟨l0, l1, l2, l3, true, l5, l6, l7, true, l9, l10, l11, true, true, l14, rfl, rfl, ⟨below_more HF.out hb⟩⟩
        ·
         obtain rfl : l14 = false := (AnyOrder.mem_ready hi).2.1
         obtain rfl : l4 = true := AnyOrder.dep (q := 0) hi rfl rfl rfl
         obtain rfl : l13 = true := AnyOrder.dep (q := 1) hi rfl rfl rfl
         clear hi
         simp only [sel_true, selv_true] at hK ⊢
         refine AnyOrder.wpOp_go rfl (by rfl) ?_
         go_wp2_with fail
         exact ⟨l0, l1, l2, l3, true, l5, l6, l7, l8, l9, l10, l11, l12, true, true, rfl, rfl, HF⟩
       case last =>
        rintro L ac V ⟨l0, l1, l2, l3, l4, l5, l6, l7, l8, l9, l10, l11, l12, l13, l14, rfl, rfl, HF⟩ hr
        have hall := AnyOrder.all_listed rfl (by kernel_rfl) hr
        clear hr
        obtain rfl : l0 = true := hall 0 (by decide)
        obtain rfl : l1 = true := hall 1 (by decide)
        obtain rfl : l2 = true := hall 2 (by decide)
        obtain rfl : l3 = true := hall 3 (by decide)
        obtain rfl : l4 = true := hall 4 (by decide)
        obtain rfl : l5 = true := hall 5 (by decide)
        obtain rfl : l6 = true := hall 6 (by decide)
        obtain rfl : l7 = true := hall 7 (by decide)
        obtain rfl : l8 = true := hall 8 (by decide)
        obtain rfl : l9 = true := hall 9 (by decide)
        obtain rfl : l10 = true := hall 10 (by decide)
        obtain rfl : l11 = true := hall 11 (by decide)
        obtain rfl : l12 = true := hall 12 (by decide)
        obtain rfl : l13 = true := hall 13 (by decide)
        obtain rfl : l14 = true := hall 14 (by decide)
        clear hall
        simp only [sel_true, selv_true]
        have HHF := Aside0.mk (below_more (below_drew1 HB2.out) HF.out)
        have hno4 := HNO.out
        go_wp2
        go_roundw
        case rel => exact ⟨k + 1, by omega, by go_num, ⟨fun q z hq hz => by rcases Nat.lt_succ_iff_lt_or_eq.1 hq with h | h; exact HPRE.out q z h hz; subst h; rw [Hy.out] at hz; cases hz; exact Hb.out⟩, HHF⟩
        case measure => simp [intOf] <;> omega
      | false =>
       have HCUT : Aside0 (insB x (kids (l0.take i') d) = (kids (l0.take i') d).take k ++ [x] ++ (kids (l0.take i') d).drop k) := ⟨by rw [insB_cut, cutN_is (k := k) (by rw [HOC.out.1]; exact hk) HPRE.out (fun z hz => by rw [Hy.out] at hz; cases hz; exact Hb.out)]; simp⟩
       go_wp2
       refine AnyOrder.wp_region (by kernel_rfl) (rc7Inv wr.drew ad ado n c0 i' k no co x y true false _ _ _ _ _ _ _ _ _ _ _ _ _ _ _ _ _ _ _ _ _ _ _ _ _ _ _ _ _ _ _ _ _ _ _ _ _ _ _ _ _ _ _ _ _ _ _ _ _) ⟨false, false, false, false, false, false, false, false, false, false, false, false, false, false, false, rfl, rfl, ⟨Below.refl _ _⟩⟩ ?step ?last
       case step =>
        rintro L ac V i ⟨l0, l1, l2, l3, l4, l5, l6, l7, l8, l9, l10, l11, l12, l13, l14, rfl, rfl, HF⟩ hi K hK
        have h1 : i = 0 ∨ i = 1 ∨ i = 2 ∨ i = 3 ∨ i = 4 ∨ i = 5 ∨ i = 6 ∨ i = 7 ∨ i = 8 ∨ i = 9 ∨ i = 10 ∨ i = 11 ∨ i = 12 ∨ i = 13 ∨ i = 14 := by
         have h1 := (AnyOrder.mem_ready hi).1
         clear hi hK
         change i < 15 at h1
         omega
        rcases h1 with rfl | rfl | rfl | rfl | rfl | rfl | rfl | rfl | rfl | rfl | rfl | rfl | rfl | rfl | rfl
        ·
         obtain rfl : l0 = false := (AnyOrder.mem_ready hi).2.1
         clear hi
         refine AnyOrder.wpOp_go rfl (by rfl) ?_
         go_wp2_with fail
         exact ⟨true, l1, l2, l3, l4, l5, l6, l7, l8, l9, l10, l11, l12, l13, l14, rfl, rfl, HF⟩
        ·
         obtain rfl : l1 = false := (AnyOrder.mem_ready hi).2.1
         clear hi
         refine AnyOrder.wpOp_go rfl (by rfl) ?_
         go_wp2_with fail
         exact ⟨l0, true, l2, l3, l4, l5, l6, l7, l8, l9, l10, l11, l12, l13, l14, rfl, rfl, HF⟩
        ·
         obtain rfl : l2 = false := (AnyOrder.mem_ready hi).2.1
         obtain rfl : l1 = true := AnyOrder.dep (q := 0) hi rfl rfl rfl
         clear hi
         simp only [sel_true, selv_true] at hK ⊢
         refine AnyOrder.wpOp_go rfl (by rfl) ?_
         go_wp2_with fail
         exact ⟨l0, true, true, l3, l4, l5, l6, l7, l8, l9, l10, l11, l12, l13, l14, rfl, rfl, HF⟩
        ·
         obtain rfl : l3 = false := (AnyOrder.mem_ready hi).2.1
         obtain rfl : l0 = true := AnyOrder.dep (q := 0) hi rfl rfl rfl
         obtain rfl : l2 = true := AnyOrder.dep (q := 1) hi rfl rfl rfl
         clear hi
         simp only [sel_true, selv_true] at hK ⊢
         have hdec : decide ((k : Int) < (no : Int)) = true := decide_eq_true (by omega)
         refine AnyOrder.wpOp_go rfl (by rfl) ?_
         go_wp2_with fail
         exact ⟨true, l1, true, true, l4, l5, l6, l7, l8, l9, l10, l11, l12, l13, l14, rfl, rfl, HF⟩
        ·
         obtain rfl : l4 = false := (AnyOrder.mem_ready hi).2.1
         obtain rfl : l3 = true := AnyOrder.dep (q := 0) hi rfl rfl rfl
         clear hi
         simp only [sel_true, selv_true] at hK ⊢
         refine AnyOrder.wpOp_go rfl (by rfl) ?_
         go_wp2_with fail
         exact ⟨l0, l1, l2, true, true, l5, l6, l7, l8, l9, l10, l11, l12, l13, l14, rfl, rfl, HF⟩
        ·
         obtain rfl : l5 = false := (AnyOrder.mem_ready hi).2.1
         obtain rfl : l4 = true := AnyOrder.dep (q := 0) hi rfl rfl rfl
         clear hi
         simp only [sel_true, selv_true] at hK ⊢
         refine AnyOrder.wpOp_go rfl (by rfl) ?_
         go_wp2_with fail
         exact ⟨l0, l1, l2, l3, true, true, l6, l7, l8, l9, l10, l11, l12, l13, l14, rfl, rfl, HF⟩
        ·
         obtain rfl : l6 = false := (AnyOrder.mem_ready hi).2.1
         obtain rfl : l4 = true := AnyOrder.dep (q := 0) hi rfl rfl rfl
         clear hi
         simp only [sel_true, selv_true] at hK ⊢
         refine AnyOrder.wpOp_go rfl (by rfl) ?_
         go_wp2_with fail
         exact ⟨l0, l1, l2, l3, true, l5, true, l7, l8, l9, l10, l11, l12, l13, l14, rfl, rfl, HF⟩
        ·
         obtain rfl : l7 = false := (AnyOrder.mem_ready hi).2.1
         obtain rfl : l5 = true := AnyOrder.dep (q := 0) hi rfl rfl rfl
         obtain rfl : l6 = true := AnyOrder.dep (q := 1) hi rfl rfl rfl
         obtain rfl : l4 = true := AnyOrder.dep (q := 2) hi rfl rfl rfl
         clear hi
         simp only [sel_true, selv_true] at hK ⊢
         have hkk := HKN.out.1
         have hkl2 := HKN.out.2
         refine AnyOrder.wpOp_go rfl (by rfl) ?_
         go_wp2_with fail
         exact ⟨l0, l1, l2, l3, true, true, true, true, l8, l9, l10, l11, l12, l13, l14, rfl, rfl, HF⟩
        ·
         obtain rfl : l8 = false := (AnyOrder.mem_ready hi).2.1
         obtain rfl : l7 = true := AnyOrder.dep (q := 0) hi rfl rfl rfl
         obtain rfl : l4 = true := AnyOrder.dep (q := 1) hi rfl rfl rfl
         clear hi
         simp only [sel_true, selv_true] at hK ⊢
         obtain ⟨y0, y1, y2, y3, y4, y5⟩ := HY.out
         have y0 := pw_cell_below HF.out y0
         have y1 := pw_cell_below HF.out y1
         have y2 := pw_cell_below HF.out y2
         have y3 := pw_cell_below HF.out y3
         have y4 := pw_cell_below HF.out y4
         have y5 := pw_cell_below HF.out y5
         refine AnyOrder.wpOp_go rfl (by rfl) ?_
         go_wp2_with fail
         exact ⟨l0, l1, l2, l3, true, l5, l6, true, true, l9, l10, l11, l12, l13, l14, rfl, rfl, HF⟩
        ·
         obtain rfl : l9 = false := (AnyOrder.mem_ready hi).2.1
         obtain rfl : l4 = true := AnyOrder.dep (q := 0) hi rfl rfl rfl
         clear hi
         simp only [sel_true, selv_true] at hK ⊢
         refine AnyOrder.wpOp_go rfl (by rfl) ?_
         go_wp2_with fail
         exact ⟨l0, l1, l2, l3, true, l5, l6, l7, l8, true, l10, l11, l12, l13, l14, rfl, rfl, HF⟩
        ·
         obtain rfl : l10 = false := (AnyOrder.mem_ready hi).2.1
         obtain rfl : l4 = true := AnyOrder.dep (q := 0) hi rfl rfl rfl
         clear hi
         simp only [sel_true, selv_true] at hK ⊢
         refine AnyOrder.wpOp_go rfl (by rfl) ?_
         go_wp2_with fail
         exact ⟨l0, l1, l2, l3, true, l5, l6, l7, l8, l9, true, l11, l12, l13, l14, rfl, rfl, HF⟩
        ·
         obtain rfl : l11 = false := (AnyOrder.mem_ready hi).2.1
         obtain rfl : l9 = true := AnyOrder.dep (q := 0) hi rfl rfl rfl
         obtain rfl : l10 = true := AnyOrder.dep (q := 1) hi rfl rfl rfl
         obtain rfl : l4 = true := AnyOrder.dep (q := 2) hi rfl rfl rfl
         clear hi
         simp only [sel_true, selv_true] at hK ⊢
         have hkk := HXI.out.1
         have hkl2 := HXI.out.2
         refine AnyOrder.wpOp_go rfl (by rfl) ?_
         go_wp2_with fail
         exact ⟨l0, l1, l2, l3, true, l5, l6, l7, l8, true, true, true, l12, l13, l14, rfl, rfl, HF⟩
        ·
         obtain rfl : l12 = false := (AnyOrder.mem_ready hi).2.1
         obtain rfl : l11 = true := AnyOrder.dep (q := 0) hi rfl rfl rfl
         obtain rfl : l4 = true := AnyOrder.dep (q := 1) hi rfl rfl rfl
         clear hi
         simp only [sel_true, selv_true] at hK ⊢
         obtain ⟨g0, g1, g2, g3, g4, g5⟩ := HG.out
         have g0 := pw_cell_below HF.out g0
         have g1 := pw_cell_below HF.out g1
         have g2 := pw_cell_below HF.out g2
         have g3 := pw_cell_below HF.out g3
         have g4 := pw_cell_below HF.out g4
         have g5 := pw_cell_below HF.out g5
         refine AnyOrder.wpOp_go rfl (by rfl) ?_
         go_wp2_with fail
         exact ⟨l0, l1, l2, l3, true, l5, l6, l7, l8, l9, l10, true, true, l13, l14, rfl, rfl, HF⟩
        ·
         obtain rfl : l13 = false := (AnyOrder.mem_ready hi).2.1
         obtain rfl : l8 = true := AnyOrder.dep (q := 0) hi rfl rfl rfl
         obtain rfl : l12 = true := AnyOrder.dep (q := 1) hi rfl rfl rfl
         obtain rfl : l4 = true := AnyOrder.dep (q := 2) hi rfl rfl rfl
         clear hi
         simp only [sel_true, selv_true] at hK ⊢
         refine AnyOrder.wpOp_go rfl (by rfl) ?_
         go_wp2_with fail
         refine (redpencilref09_Before.calls _ _ _ _ _ _ _ _ _ _ _ _ false V (by rw [before_is, Hb.out])).mono ?_
         rintro e V' ⟨rfl, hb⟩
         exact hK _ _ ⟨l0, l1, l2, l3, true, l5, l6, l7, true, l9, l10, l11, true, true, l14, rfl, rfl, ⟨below_more HF.out hb⟩⟩
        ·
         obtain rfl : l14 = false := (AnyOrder.mem_ready hi).2.1
         obtain rfl : l4 = true := AnyOrder.dep (q := 0) hi rfl rfl rfl
         obtain rfl : l13 = true := AnyOrder.dep (q := 1) hi rfl rfl rfl
         clear hi
         simp only [sel_true, selv_true] at hK ⊢
         refine AnyOrder.wpOp_go rfl (by rfl) ?_
         go_wp2_with fail
         exact ⟨l0, l1, l2, l3, true, l5, l6, l7, l8, l9, l10, l11, l12, true, true, rfl, rfl, HF⟩
       case last =>
        rintro L ac V ⟨l0, l1, l2, l3, l4, l5, l6, l7, l8, l9, l10, l11, l12, l13, l14, rfl, rfl, HF⟩ hr
        have hall := AnyOrder.all_listed rfl (by kernel_rfl) hr
        clear hr
        obtain rfl : l0 = true := hall 0 (by decide)
        obtain rfl : l1 = true := hall 1 (by decide)
        obtain rfl : l2 = true := hall 2 (by decide)
        obtain rfl : l3 = true := hall 3 (by decide)
        obtain rfl : l4 = true := hall 4 (by decide)
        obtain rfl : l5 = true := hall 5 (by decide)
        obtain rfl : l6 = true := hall 6 (by decide)
        obtain rfl : l7 = true := hall 7 (by decide)
        obtain rfl : l8 = true := hall 8 (by decide)
        obtain rfl : l9 = true := hall 9 (by decide)
        obtain rfl : l10 = true := hall 10 (by decide)
        obtain rfl : l11 = true := hall 11 (by decide)
        obtain rfl : l12 = true := hall 12 (by decide)
        obtain rfl : l13 = true := hall 13 (by decide)
        obtain rfl : l14 = true := hall 14 (by decide)
        clear hall
        simp only [sel_true, selv_true]
        have HHF := Aside0.mk (below_more (below_drew1 HB2.out) HF.out)
        clear HF
        generalize V = V9 at *
        have HHO9 := Aside0.mk (RN.C (RN.below' HHO.out (below_drew1 HHF.out)))
        have HB9 := Aside0.mk (below_more HHB.out (below_drew1 HHF.out))
        obtain ⟨ad', e, g0, g1, g2, g3, g4, g5⟩ := node_at HR.out HB9.out i' x Hx.out
        cases e
        have HG := Aside0.mk (And.intro g0 (And.intro g1 (And.intro g2 (And.intro g3 (And.intro g4 g5)))))
        have HKC : Aside0 (k ≤ no ∧ no ≤ 400000) := ⟨⟨Nat.le_of_lt hkl, HNO.out⟩⟩
        clear g0 g1 g2 g3 g4 g5
        obtain ⟨out, Hout⟩ : ∃ out, Aside0 (kids (l0.take i') d = out) := ⟨_, ⟨rfl⟩⟩
        rw [Hout.out] at HHO9 HCUT HST
        obtain ⟨m3, Hm3⟩ : ∃ m3, Aside0 (no - k = m3) := ⟨_, ⟨rfl⟩⟩
        obtain ⟨q3, Hq3⟩ : ∃ q3, Aside0 (co - k = q3) := ⟨_, ⟨rfl⟩⟩
        obtain ⟨Ac, HAc⟩ : ∃ Ac, Aside0 ((if co = k then (some ado) else Option.map (·.add (k * 6)) (some ado)) = Ac) := ⟨_, ⟨rfl⟩⟩
        have HCD : Aside0 (Kd.C k35 V9.drew Ac m3 (out.drop k)) := ⟨by rw [← HAc.out, ← Hm3.out]; exact C_from HHO9.out.2.2 HHO9.out.1 HKC.out.1 HHO9.out.2.1⟩
        have HCF : Aside0 (∀ W, (Instr.sliceAt 22 (.slice (some ado) no co) (some (.int .i64 (k : Int))) none none).run Tryz.prog W = .ok (.slice Ac m3 q3) W) := ⟨fun W => by rw [← HAc.out, ← Hm3.out, ← Hq3.out]; exact cut_fromN HKC.out.1 W⟩
        go_wp2_with fail
        refine AnyOrder.wp_region (by kernel_rfl) (rc9Inv V9.drew ad (some ado) Ac n c0 i' k no co m3 q3 x out _ _ _ _ _ _ _ _ _ _ _ _ _ _ _ _ _ _ _ _ _ _ _ _ _ _ _ _ _ _ _ _ _ _ _ _ _ _ _ _ _ _ _ _ _ _ _ _ _) ⟨false, false, false, false, false, false, false, false, false, false, false, false, false, false, false, 0, undef, undef, undef, rfl, rfl, ⟨⟨fun h => (by cases h), fun h => (by cases h), fun h => (by cases h), Below.refl _ _, fun h _ => (by cases h), fun h _ => (by cases h), fun h _ => (by cases h), fun h => (by cases h)⟩⟩⟩ ?step ?last
        case step =>
         rintro L ac V i ⟨l0, l1, l2, l3, l4, l5, l6, l7, l8, l9, l10, l11, l12, l13, l14, g, v1, v2, v3, rfl, rfl, HF⟩ hi K hK
         have h1 : i = 0 ∨ i = 1 ∨ i = 2 ∨ i = 3 ∨ i = 4 ∨ i = 5 ∨ i = 6 ∨ i = 7 ∨ i = 8 ∨ i = 9 ∨ i = 10 ∨ i = 11 ∨ i = 12 ∨ i = 13 ∨ i = 14 := by
          have h1 := (AnyOrder.mem_ready hi).1
          clear hi hK
          change i < 15 at h1
          omega
         rcases h1 with rfl | rfl | rfl | rfl | rfl | rfl | rfl | rfl | rfl | rfl | rfl | rfl | rfl | rfl | rfl
         ·
          obtain rfl : l0 = false := (AnyOrder.mem_ready hi).2.1
          clear hi
          obtain rfl : l14 = false := by cases l14 with | false => rfl | true => cases (HF.out.ord14 rfl).2.1
          (try simp only [sel_false, selv_false] at hK ⊢)
          refine AnyOrder.wpOp_go rfl (by rfl) ?_
          go_wp2_with fail
          exact ⟨true, l1, l2, l3, l4, l5, l6, l7, l8, l9, l10, l11, l12, l13, false, g, v1, v2, v3, rfl, rfl, ⟨⟨HF.out.ord9, HF.out.ord13, fun h => (by cases h), HF.out.below, HF.out.r1, HF.out.bx, HF.out.r2, HF.out.r3⟩⟩⟩
         ·
          obtain rfl : l1 = false := (AnyOrder.mem_ready hi).2.1
          clear hi
          refine AnyOrder.wpOp_go rfl (by rfl) ?_
          go_wp2_with fail
          exact ⟨l0, true, l2, l3, l4, l5, l6, l7, l8, l9, l10, l11, l12, l13, l14, g, v1, v2, v3, rfl, rfl, HF⟩
         ·
          obtain rfl : l2 = false := (AnyOrder.mem_ready hi).2.1
          obtain rfl : l0 = true := AnyOrder.dep (q := 0) hi rfl rfl rfl
          obtain rfl : l1 = true := AnyOrder.dep (q := 1) hi rfl rfl rfl
          clear hi
          simp only [sel_true, selv_true] at hK ⊢
          refine AnyOrder.wpOp_go rfl (by rfl) ?_
          refine op_slice 22 (.tmp 38) none (some (.tmp 39)) rfl rfl rfl rfl (cut_toN HKC.out.1 HHO9.out.2.1 V) ?_
          exact hK _ _ ⟨true, true, true, l3, l4, l5, l6, l7, l8, l9, l10, l11, l12, l13, l14, g, v1, v2, v3, rfl, rfl, HF⟩
         ·
          obtain rfl : l3 = false := (AnyOrder.mem_ready hi).2.1
          obtain rfl : l2 = true := AnyOrder.dep (q := 0) hi rfl rfl rfl
          clear hi
          simp only [sel_true, selv_true] at hK ⊢
          obtain ⟨rfl, rfl, rfl⟩ := HF.out.no (.inl rfl)
          refine AnyOrder.wpOp_go rfl (by rfl) ?_
          refine op_append_node V9.drew.heap.size rfl (.const (.slice none 0 0)) (.tmp 40) rfl (.slice none 0 0) [] (out.take k) (some ado) k co rfl rfl (Kd.R_nil _ _ _ _ _) (C_to (Kd.C_below HHO9.out.2.2 HF.out.below) HHO9.out.1 HKC.out.1) HF.out.below.size (by have h1 := HKC.out.1; have h2 := HKC.out.2; simp; omega) ?_
          intro u1 V1 hr1 hg1 _
          have hb1 := grown_nil hg1
          exact hK _ _ ⟨l0, l1, true, true, l4, l5, l6, l7, l8, false, l10, l11, l12, false, false, g, u1, v2, v3, rfl, rfl, ⟨⟨fun h => (by cases h), fun h => (by cases h), fun h => (by cases h), below_more HF.out.below hb1, fun _ _ => hr1, fun h _ => blk_keep (HF.out.bx h rfl) hb1, fun h _ => (by cases h), fun h => (by cases h)⟩⟩⟩
         ·
          obtain rfl : l4 = false := (AnyOrder.mem_ready hi).2.1
          clear hi
          refine AnyOrder.wpOp_go rfl (by rfl) ?_
          go_wp2_with fail
          exact ⟨l0, l1, l2, l3, true, l5, l6, l7, l8, l9, l10, l11, l12, l13, l14, g, v1, v2, v3, rfl, rfl, HF⟩
         ·
          obtain rfl : l5 = false := (AnyOrder.mem_ready hi).2.1
          clear hi
          refine AnyOrder.wpOp_go rfl (by rfl) ?_
          go_wp2_with fail
          exact ⟨l0, l1, l2, l3, l4, true, l6, l7, l8, l9, l10, l11, l12, l13, l14, g, v1, v2, v3, rfl, rfl, HF⟩
         ·
          obtain rfl : l6 = false := (AnyOrder.mem_ready hi).2.1
          obtain rfl : l4 = true := AnyOrder.dep (q := 0) hi rfl rfl rfl
          obtain rfl : l5 = true := AnyOrder.dep (q := 1) hi rfl rfl rfl
          clear hi
          simp only [sel_true, selv_true] at hK ⊢
          have hkk := HXI.out.1
          have hkl2 := HXI.out.2
          refine AnyOrder.wpOp_go rfl (by rfl) ?_
          go_wp2_with fail
          exact ⟨l0, l1, l2, l3, true, true, true, l7, l8, l9, l10, l11, l12, l13, l14, g, v1, v2, v3, rfl, rfl, HF⟩
         ·
          obtain rfl : l7 = false := (AnyOrder.mem_ready hi).2.1
          obtain rfl : l6 = true := AnyOrder.dep (q := 0) hi rfl rfl rfl
          clear hi
          simp only [sel_true, selv_true] at hK ⊢
          obtain ⟨g0, g1, g2, g3, g4, g5⟩ := HG.out
          have g0 := pw_cell_below HF.out.below g0
          have g1 := pw_cell_below HF.out.below g1
          have g2 := pw_cell_below HF.out.below g2
          have g3 := pw_cell_below HF.out.below g3
          have g4 := pw_cell_below HF.out.below g4
          have g5 := pw_cell_below HF.out.below g5
          refine AnyOrder.wpOp_go rfl (by rfl) ?_
          go_wp2_with fail
          exact ⟨l0, l1, l2, l3, l4, l5, true, true, l8, l9, l10, l11, l12, l13, l14, g, v1, v2, v3, rfl, rfl, HF⟩
         ·
          obtain rfl : l8 = false := (AnyOrder.mem_ready hi).2.1
          obtain rfl : l7 = true := AnyOrder.dep (q := 0) hi rfl rfl rfl
          clear hi
          simp only [sel_true, selv_true] at hK ⊢
          obtain ⟨rfl, rfl, rfl⟩ := HF.out.no (.inr rfl)
          have hb1 := (Gr.alloc V (boxN x)).below
          refine AnyOrder.wpOp_go rfl (by rfl) ?_
          go_wp2_with fail
          exact ⟨l0, l1, l2, l3, l4, l5, l6, true, true, false, l10, l11, l12, false, false, V.heap.size, v1, v2, v3, rfl, rfl, ⟨⟨fun h => (by cases h), fun h => (by cases h), fun h => (by cases h), below_more HF.out.below hb1, fun h _ => RN.below' (HF.out.r1 h rfl) hb1, fun _ _ => blk_new _ _, fun h _ => (by cases h), fun h => (by cases h)⟩⟩⟩
         ·
          obtain rfl : l9 = false := (AnyOrder.mem_ready hi).2.1
          obtain rfl : l3 = true := AnyOrder.dep (q := 0) hi rfl rfl rfl
          obtain rfl : l8 = true := AnyOrder.dep (q := 1) hi rfl rfl rfl
          clear hi
          simp only [sel_true, selv_true] at hK ⊢
          obtain rfl : l13 = false := by cases l13 with | false => rfl | true => cases HF.out.ord13 rfl
          obtain rfl : l14 = false := by cases l14 with | false => rfl | true => cases (HF.out.ord14 rfl).1
          have hr1 := HF.out.r1 rfl rfl
          refine AnyOrder.wpOp_go rfl (by rfl) ?_
          refine op_append_node V9.drew.heap.size rfl (.tmp 41) (.tmp 46) rfl v1 (out.take k) [x] (some ⟨g, 0, none⟩) 1 1 rfl rfl hr1 (boxN_C (HF.out.bx rfl rfl)) HF.out.below.size (by have h1 := HKC.out.1; have h2 := HKC.out.2; rw [List.length_take]; omega) ?_
          intro u2 V2 hr2 hg2 _
          exact hK _ _ ⟨l0, l1, l2, true, l4, l5, l6, l7, true, true, l10, l11, l12, false, false, g, v1, u2, v3, rfl, rfl, ⟨⟨fun _ => ⟨rfl, rfl⟩, fun h => (by cases h), fun h => (by cases h), grown_below HF.out.below hr1 hg2, fun _ h => (by cases h), fun _ h => (by cases h), fun _ _ => hr2, fun h => (by cases h)⟩⟩⟩
         ·
          obtain rfl : l10 = false := (AnyOrder.mem_ready hi).2.1
          clear hi
          obtain rfl : l14 = false := by cases l14 with | false => rfl | true => cases (HF.out.ord14 rfl).2.2
          (try simp only [sel_false, selv_false] at hK ⊢)
          refine AnyOrder.wpOp_go rfl (by rfl) ?_
          go_wp2_with fail
          exact ⟨l0, l1, l2, l3, l4, l5, l6, l7, l8, l9, true, l11, l12, l13, false, g, v1, v2, v3, rfl, rfl, ⟨⟨HF.out.ord9, HF.out.ord13, fun h => (by cases h), HF.out.below, HF.out.r1, HF.out.bx, HF.out.r2, HF.out.r3⟩⟩⟩
         ·
          obtain rfl : l11 = false := (AnyOrder.mem_ready hi).2.1
          clear hi
          refine AnyOrder.wpOp_go rfl (by rfl) ?_
          go_wp2_with fail
          exact ⟨l0, l1, l2, l3, l4, l5, l6, l7, l8, l9, l10, true, l12, l13, l14, g, v1, v2, v3, rfl, rfl, HF⟩
         ·
          obtain rfl : l12 = false := (AnyOrder.mem_ready hi).2.1
          obtain rfl : l10 = true := AnyOrder.dep (q := 0) hi rfl rfl rfl
          obtain rfl : l11 = true := AnyOrder.dep (q := 1) hi rfl rfl rfl
          clear hi
          simp only [sel_true, selv_true] at hK ⊢
          refine AnyOrder.wpOp_go rfl (by rfl) ?_
          refine op_slice 22 (.tmp 48) (some (.tmp 49)) none rfl rfl rfl rfl (HCF.out V) ?_
          exact hK _ _ ⟨l0, l1, l2, l3, l4, l5, l6, l7, l8, l9, true, true, true, l13, l14, g, v1, v2, v3, rfl, rfl, HF⟩
         ·
          obtain rfl : l13 = false := (AnyOrder.mem_ready hi).2.1
          obtain rfl : l9 = true := AnyOrder.dep (q := 0) hi rfl rfl rfl
          obtain rfl : l12 = true := AnyOrder.dep (q := 1) hi rfl rfl rfl
          clear hi
          simp only [sel_true, selv_true] at hK ⊢
          obtain rfl : l14 = false := by cases l14 with | false => rfl | true => cases (HF.out.ord14 rfl).1
          have hr2 := HF.out.r2 rfl rfl
          refine AnyOrder.wpOp_go rfl (by rfl) ?_
          refine op_append_node V9.drew.heap.size rfl (.tmp 47) (.tmp 50) rfl v2 (out.take k ++ [x]) (out.drop k) Ac m3 q3 rfl rfl hr2 (Kd.C_below HCD.out HF.out.below) HF.out.below.size (by have h1 := HKC.out.1; have h2 := HKC.out.2; have h3 := Hm3.out; rw [List.length_append, List.length_take, List.length_singleton]; omega) ?_
          intro u3 V3 hr3 hg3 _
          exact hK _ _ ⟨l0, l1, l2, l3, l4, l5, l6, l7, l8, true, l10, l11, true, true, false, g, v1, v2, u3, rfl, rfl, ⟨⟨HF.out.ord9, fun _ => rfl, fun h => (by cases h), grown_below HF.out.below hr2 hg3, fun _ h => (by cases h), fun _ h => (by cases h), fun _ h => (by cases h), fun _ => by rw [HCUT.out]; exact hr3⟩⟩⟩
         ·
          obtain rfl : l14 = false := (AnyOrder.mem_ready hi).2.1
          obtain rfl : l13 = true := AnyOrder.dep (q := 0) hi rfl rfl rfl
          obtain rfl : l0 = true := AnyOrder.dep (q := 2) hi rfl rfl rfl
          obtain rfl : l1 = true := AnyOrder.dep (q := 3) hi rfl rfl rfl
          obtain rfl : l2 = true := AnyOrder.dep (q := 4) hi rfl rfl rfl
          obtain rfl : l3 = true := AnyOrder.dep (q := 5) hi rfl rfl rfl
          obtain rfl : l4 = true := AnyOrder.dep (q := 6) hi rfl rfl rfl
          obtain rfl : l5 = true := AnyOrder.dep (q := 7) hi rfl rfl rfl
          obtain rfl : l6 = true := AnyOrder.dep (q := 8) hi rfl rfl rfl
          obtain rfl : l7 = true := AnyOrder.dep (q := 9) hi rfl rfl rfl
          obtain rfl : l8 = true := AnyOrder.dep (q := 10) hi rfl rfl rfl
          obtain rfl : l9 = true := AnyOrder.dep (q := 11) hi rfl rfl rfl
          obtain rfl : l10 = true := AnyOrder.dep (q := 12) hi rfl rfl rfl
          obtain rfl : l11 = true := AnyOrder.dep (q := 13) hi rfl rfl rfl
          obtain rfl : l12 = true := AnyOrder.dep (q := 14) hi rfl rfl rfl
          clear hi
          simp only [sel_true, selv_true] at hK ⊢
          refine AnyOrder.wpOp_go rfl (by rfl) ?_
          go_wp2_with fail
          exact ⟨true, true, true, true, true, true, true, true, true, true, true, true, true, true, true, g, v1, v2, v3, rfl, rfl, ⟨⟨HF.out.ord9, HF.out.ord13, fun _ => ⟨rfl, rfl, rfl⟩, HF.out.below, HF.out.r1, HF.out.bx, HF.out.r2, HF.out.r3⟩⟩⟩
        case last =>
         rintro L ac V ⟨l0, l1, l2, l3, l4, l5, l6, l7, l8, l9, l10, l11, l12, l13, l14, g, v1, v2, v3, rfl, rfl, HF⟩ hr
         have hall := AnyOrder.all_listed rfl (by kernel_rfl) hr
         clear hr
         obtain rfl : l0 = true := hall 0 (by decide)
         obtain rfl : l1 = true := hall 1 (by decide)
         obtain rfl : l2 = true := hall 2 (by decide)
         obtain rfl : l3 = true := hall 3 (by decide)
         obtain rfl : l4 = true := hall 4 (by decide)
         obtain rfl : l5 = true := hall 5 (by decide)
         obtain rfl : l6 = true := hall 6 (by decide)
         obtain rfl : l7 = true := hall 7 (by decide)
         obtain rfl : l8 = true := hall 8 (by decide)
         obtain rfl : l9 = true := hall 9 (by decide)
         obtain rfl : l10 = true := hall 10 (by decide)
         obtain rfl : l11 = true := hall 11 (by decide)
         obtain rfl : l12 = true := hall 12 (by decide)
         obtain rfl : l13 = true := hall 13 (by decide)
         obtain rfl : l14 = true := hall 14 (by decide)
         clear hall
         simp only [sel_true, selv_true]
         have HR3 := Aside0.mk (HF.out.r3 rfl)
         have HB3 := Aside0.mk (below_more HB9.out HF.out.below)
         have HK3 := Aside0.mk (blk_keep (blk_keep HHK.out (below_drew1 HHF.out)) HF.out.below)
         have hn4 := HXI.out.2
         obtain ⟨A3, c3, rfl⟩ := RN.slice HR3.out
         obtain ⟨n3, hn3⟩ : ∃ n3, (insB x out).length = n3 := ⟨_, rfl⟩
         rw [hn3] at HR3 ⊢
         clear HF hn3
         go_wp2
         go_roundw
         case rel => exact ⟨i' + 1, A3, n3, c3, by omega, by go_num, rfl, ⟨by rw [HST.out]; exact Kd.R_lower HR3.out HB9.out.size⟩, HK3, HB3⟩
         case measure => simp [intOf] <;> omega
     ·
      obtain rfl : k = no := by omega
      have HCUT : Aside0 (insB x (kids (l0.take i') d) = (kids (l0.take i') d).take k ++ [x] ++ (kids (l0.take i') d).drop k) := ⟨by rw [insB_cut, cutN_is (k := k) (by rw [HOC.out.1]; exact hk) HPRE.out (fun z hz => by rw [List.getElem?_eq_none (by rw [HOC.out.1]; exact hk)] at hz; cases hz)]; simp⟩
      go_wp2
      refine AnyOrder.wp_region (by kernel_rfl) (rc7eInv wr.drew ad Ao n c0 i' k k co x x false false _ _ _ _ _ _ _ _ _ _ _ _ _ _ _ _ _ _ _ _ _ _ _ _ _ _ _ _ _ _ _ _ _ _ _ _ _ _ _ _ _ _ _ _ _ _ _ _ _) ⟨false, false, false, false, false, false, false, false, false, false, false, false, false, false, false, rfl, rfl, ⟨Below.refl _ _⟩⟩ ?step ?last
      case step =>
       rintro L ac V i ⟨l0, l1, l2, l3, l4, l5, l6, l7, l8, l9, l10, l11, l12, l13, l14, rfl, rfl, HF⟩ hi K hK
       have h1 : i = 0 ∨ i = 1 ∨ i = 2 ∨ i = 3 ∨ i = 4 ∨ i = 5 ∨ i = 6 ∨ i = 7 ∨ i = 8 ∨ i = 9 ∨ i = 10 ∨ i = 11 ∨ i = 12 ∨ i = 13 ∨ i = 14 := by
        have h1 := (AnyOrder.mem_ready hi).1
        clear hi hK
        change i < 15 at h1
        omega
       rcases h1 with rfl | rfl | rfl | rfl | rfl | rfl | rfl | rfl | rfl | rfl | rfl | rfl | rfl | rfl | rfl
       ·
        obtain rfl : l0 = false := (AnyOrder.mem_ready hi).2.1
        clear hi
        refine AnyOrder.wpOp_go rfl (by rfl) ?_
        go_wp2_with fail
        exact ⟨true, l1, l2, l3, l4, l5, l6, l7, l8, l9, l10, l11, l12, l13, l14, rfl, rfl, HF⟩
       ·
        obtain rfl : l1 = false := (AnyOrder.mem_ready hi).2.1
        clear hi
        refine AnyOrder.wpOp_go rfl (by rfl) ?_
        go_wp2_with fail
        exact ⟨l0, true, l2, l3, l4, l5, l6, l7, l8, l9, l10, l11, l12, l13, l14, rfl, rfl, HF⟩
       ·
        obtain rfl : l2 = false := (AnyOrder.mem_ready hi).2.1
        obtain rfl : l1 = true := AnyOrder.dep (q := 0) hi rfl rfl rfl
        clear hi
        simp only [sel_true, selv_true] at hK ⊢
        refine AnyOrder.wpOp_go rfl (by rfl) ?_
        go_wp2_with fail
        exact ⟨l0, true, true, l3, l4, l5, l6, l7, l8, l9, l10, l11, l12, l13, l14, rfl, rfl, HF⟩
       ·
        obtain rfl : l3 = false := (AnyOrder.mem_ready hi).2.1
        obtain rfl : l0 = true := AnyOrder.dep (q := 0) hi rfl rfl rfl
        obtain rfl : l2 = true := AnyOrder.dep (q := 1) hi rfl rfl rfl
        clear hi
        simp only [sel_true, selv_true] at hK ⊢
        have hdec : decide ((k : Int) < (k : Int)) = false := decide_eq_false (by omega)
        refine AnyOrder.wpOp_go rfl (by rfl) ?_
        go_wp2_with fail
        exact ⟨true, l1, true, true, l4, l5, l6, l7, l8, l9, l10, l11, l12, l13, l14, rfl, rfl, HF⟩
       ·
        obtain rfl : l4 = false := (AnyOrder.mem_ready hi).2.1
        obtain rfl : l3 = true := AnyOrder.dep (q := 0) hi rfl rfl rfl
        clear hi
        simp only [sel_true, selv_true] at hK ⊢
        refine AnyOrder.wpOp_go rfl (by rfl) ?_
        go_wp2_with fail
        exact ⟨l0, l1, l2, true, true, l5, l6, l7, l8, l9, l10, l11, l12, l13, l14, rfl, rfl, HF⟩
       ·
        obtain rfl : l5 = false := (AnyOrder.mem_ready hi).2.1
        obtain rfl : l4 = true := AnyOrder.dep (q := 0) hi rfl rfl rfl
        clear hi
        simp only [sel_true, selv_true] at hK ⊢
        refine AnyOrder.wpOp_out rfl (by rfl) ?_
        exact hK _ _ ⟨l0, l1, l2, l3, true, true, l6, l7, l8, l9, l10, l11, l12, l13, l14, rfl, rfl, HF⟩
       ·
        obtain rfl : l6 = false := (AnyOrder.mem_ready hi).2.1
        obtain rfl : l4 = true := AnyOrder.dep (q := 0) hi rfl rfl rfl
        clear hi
        simp only [sel_true, selv_true] at hK ⊢
        refine AnyOrder.wpOp_out rfl (by rfl) ?_
        exact hK _ _ ⟨l0, l1, l2, l3, true, l5, true, l7, l8, l9, l10, l11, l12, l13, l14, rfl, rfl, HF⟩
       ·
        obtain rfl : l7 = false := (AnyOrder.mem_ready hi).2.1
        obtain rfl : l5 = true := AnyOrder.dep (q := 0) hi rfl rfl rfl
        obtain rfl : l6 = true := AnyOrder.dep (q := 1) hi rfl rfl rfl
        obtain rfl : l4 = true := AnyOrder.dep (q := 2) hi rfl rfl rfl
        clear hi
        simp only [sel_true, selv_true] at hK ⊢
        refine AnyOrder.wpOp_out rfl (by rfl) ?_
        exact hK _ _ ⟨l0, l1, l2, l3, true, true, true, true, l8, l9, l10, l11, l12, l13, l14, rfl, rfl, HF⟩
       ·
        obtain rfl : l8 = false := (AnyOrder.mem_ready hi).2.1
        obtain rfl : l7 = true := AnyOrder.dep (q := 0) hi rfl rfl rfl
        obtain rfl : l4 = true := AnyOrder.dep (q := 1) hi rfl rfl rfl
        clear hi
        simp only [sel_true, selv_true] at hK ⊢
        refine AnyOrder.wpOp_out rfl (by rfl) ?_
        exact hK _ _ ⟨l0, l1, l2, l3, true, l5, l6, true, true, l9, l10, l11, l12, l13, l14, rfl, rfl, HF⟩
       ·
        obtain rfl : l9 = false := (AnyOrder.mem_ready hi).2.1
        obtain rfl : l4 = true := AnyOrder.dep (q := 0) hi rfl rfl rfl
        clear hi
        simp only [sel_true, selv_true] at hK ⊢
        refine AnyOrder.wpOp_out rfl (by rfl) ?_
        exact hK _ _ ⟨l0, l1, l2, l3, true, l5, l6, l7, l8, true, l10, l11, l12, l13, l14, rfl, rfl, HF⟩
       ·
        obtain rfl : l10 = false := (AnyOrder.mem_ready hi).2.1
        obtain rfl : l4 = true := AnyOrder.dep (q := 0) hi rfl rfl rfl
        clear hi
        simp only [sel_true, selv_true] at hK ⊢
        refine AnyOrder.wpOp_out rfl (by rfl) ?_
        exact hK _ _ ⟨l0, l1, l2, l3, true, l5, l6, l7, l8, l9, true, l11, l12, l13, l14, rfl, rfl, HF⟩
       ·
        obtain rfl : l11 = false := (AnyOrder.mem_ready hi).2.1
        obtain rfl : l9 = true := AnyOrder.dep (q := 0) hi rfl rfl rfl
        obtain rfl : l10 = true := AnyOrder.dep (q := 1) hi rfl rfl rfl
        obtain rfl : l4 = true := AnyOrder.dep (q := 2) hi rfl rfl rfl
        clear hi
        simp only [sel_true, selv_true] at hK ⊢
        refine AnyOrder.wpOp_out rfl (by rfl) ?_
        exact hK _ _ ⟨l0, l1, l2, l3, true, l5, l6, l7, l8, true, true, true, l12, l13, l14, rfl, rfl, HF⟩
       ·
        obtain rfl : l12 = false := (AnyOrder.mem_ready hi).2.1
        obtain rfl : l11 = true := AnyOrder.dep (q := 0) hi rfl rfl rfl
        obtain rfl : l4 = true := AnyOrder.dep (q := 1) hi rfl rfl rfl
        clear hi
        simp only [sel_true, selv_true] at hK ⊢
        refine AnyOrder.wpOp_out rfl (by rfl) ?_
        exact hK _ _ ⟨l0, l1, l2, l3, true, l5, l6, l7, l8, l9, l10, true, true, l13, l14, rfl, rfl, HF⟩
       ·
        obtain rfl : l13 = false := (AnyOrder.mem_ready hi).2.1
        obtain rfl : l8 = true := AnyOrder.dep (q := 0) hi rfl rfl rfl
        obtain rfl : l12 = true := AnyOrder.dep (q := 1) hi rfl rfl rfl
        obtain rfl : l4 = true := AnyOrder.dep (q := 2) hi rfl rfl rfl
        clear hi
        simp only [sel_true, selv_true] at hK ⊢
        refine AnyOrder.wpOp_out rfl (by rfl) ?_
        exact hK _ _ ⟨l0, l1, l2, l3, true, l5, l6, l7, true, l9, l10, l11, true, true, l14, rfl, rfl, HF⟩
       ·
        obtain rfl : l14 = false := (AnyOrder.mem_ready hi).2.1
        obtain rfl : l4 = true := AnyOrder.dep (q := 0) hi rfl rfl rfl
        obtain rfl : l13 = true := AnyOrder.dep (q := 1) hi rfl rfl rfl
        clear hi
        simp only [sel_true, selv_true] at hK ⊢
        refine AnyOrder.wpOp_go rfl (by rfl) ?_
        go_wp2_with fail
        exact ⟨l0, l1, l2, l3, true, l5, l6, l7, l8, l9, l10, l11, l12, true, true, rfl, rfl, HF⟩
      case last =>
       rintro L ac V ⟨l0, l1, l2, l3, l4, l5, l6, l7, l8, l9, l10, l11, l12, l13, l14, rfl, rfl, HF⟩ hr
       have hall := AnyOrder.all_listed rfl (by kernel_rfl) hr
       clear hr
       obtain rfl : l0 = true := hall 0 (by decide)
       obtain rfl : l1 = true := hall 1 (by decide)
       obtain rfl : l2 = true := hall 2 (by decide)
       obtain rfl : l3 = true := hall 3 (by decide)
       obtain rfl : l4 = true := hall 4 (by decide)
       obtain rfl : l5 = true := hall 5 (by decide)
       obtain rfl : l6 = true := hall 6 (by decide)
       obtain rfl : l7 = true := hall 7 (by decide)
       obtain rfl : l8 = true := hall 8 (by decide)
       obtain rfl : l9 = true := hall 9 (by decide)
       obtain rfl : l10 = true := hall 10 (by decide)
       obtain rfl : l11 = true := hall 11 (by decide)
       obtain rfl : l12 = true := hall 12 (by decide)
       obtain rfl : l13 = true := hall 13 (by decide)
       obtain rfl : l14 = true := hall 14 (by decide)
       clear hall
       simp only [sel_true, selv_true]
       have HHF := Aside0.mk (below_more (below_drew1 HB2.out) HF.out)
       clear HF
       generalize V = V9 at *
       have HHO9 := Aside0.mk (RN.C (RN.below' HHO.out (below_drew1 HHF.out)))
       have HB9 := Aside0.mk (below_more HHB.out (below_drew1 HHF.out))
       obtain ⟨ad', e, g0, g1, g2, g3, g4, g5⟩ := node_at HR.out HB9.out i' x Hx.out
       cases e
       have HG := Aside0.mk (And.intro g0 (And.intro g1 (And.intro g2 (And.intro g3 (And.intro g4 g5)))))
       have HKC : Aside0 (k ≤ k ∧ k ≤ 400000) := ⟨⟨Nat.le_refl _, HNO.out⟩⟩
       clear g0 g1 g2 g3 g4 g5
       obtain ⟨out, Hout⟩ : ∃ out, Aside0 (kids (l0.take i') d = out) := ⟨_, ⟨rfl⟩⟩
       rw [Hout.out] at HHO9 HCUT HST
       obtain ⟨m3, Hm3⟩ : ∃ m3, Aside0 (k - k = m3) := ⟨_, ⟨rfl⟩⟩
       obtain ⟨q3, Hq3⟩ : ∃ q3, Aside0 (co - k = q3) := ⟨_, ⟨rfl⟩⟩
       obtain ⟨Ac, HAc⟩ : ∃ Ac, Aside0 ((if co = k then Ao else Option.map (·.add (k * 6)) Ao) = Ac) := ⟨_, ⟨rfl⟩⟩
       have HCD : Aside0 (Kd.C k35 V9.drew Ac m3 (out.drop k)) := ⟨by rw [← HAc.out, ← Hm3.out]; exact C_from HHO9.out.2.2 HHO9.out.1 HKC.out.1 HHO9.out.2.1⟩
       have HCF : Aside0 (∀ W, (Instr.sliceAt 22 (.slice Ao k co) (some (.int .i64 (k : Int))) none none).run Tryz.prog W = .ok (.slice Ac m3 q3) W) := ⟨fun W => by rw [← HAc.out, ← Hm3.out, ← Hq3.out]; exact cut_fromN HKC.out.1 W⟩
       go_wp2_with fail
       refine AnyOrder.wp_region (by kernel_rfl) (rc9Inv V9.drew ad Ao Ac n c0 i' k k co m3 q3 x out _ _ _ _ _ _ _ _ _ _ _ _ _ _ _ _ _ _ _ _ _ _ _ _ _ _ _ _ _ _ _ _ _ _ _ _ _ _ _ _ _ _ _ _ _ _ _ _ _) ⟨false, false, false, false, false, false, false, false, false, false, false, false, false, false, false, 0, undef, undef, undef, rfl, rfl, ⟨⟨fun h => (by cases h), fun h => (by cases h), fun h => (by cases h), Below.refl _ _, fun h _ => (by cases h), fun h _ => (by cases h), fun h _ => (by cases h), fun h => (by cases h)⟩⟩⟩ ?step ?last
       case step =>
        rintro L ac V i ⟨l0, l1, l2, l3, l4, l5, l6, l7, l8, l9, l10, l11, l12, l13, l14, g, v1, v2, v3, rfl, rfl, HF⟩ hi K hK
        have h1 : i = 0 ∨ i = 1 ∨ i = 2 ∨ i = 3 ∨ i = 4 ∨ i = 5 ∨ i = 6 ∨ i = 7 ∨ i = 8 ∨ i = 9 ∨ i = 10 ∨ i = 11 ∨ i = 12 ∨ i = 13 ∨ i = 14 := by
         have h1 := (AnyOrder.mem_ready hi).1
         clear hi hK
         change i < 15 at h1
         omega
        rcases h1 with rfl | rfl | rfl | rfl | rfl | rfl | rfl | rfl | rfl | rfl | rfl | rfl | rfl | rfl | rfl
        ·
         obtain rfl : l0 = false := (AnyOrder.mem_ready hi).2.1
         clear hi
         obtain rfl : l14 = false := by cases l14 with | false => rfl | true => cases (HF.out.ord14 rfl).2.1
         (try simp only [sel_false, selv_false] at hK ⊢)
         refine AnyOrder.wpOp_go rfl (by rfl) ?_
         go_wp2_with fail
         exact ⟨true, l1, l2, l3, l4, l5, l6, l7, l8, l9, l10, l11, l12, l13, false, g, v1, v2, v3, rfl, rfl, ⟨⟨HF.out.ord9, HF.out.ord13, fun h => (by cases h), HF.out.below, HF.out.r1, HF.out.bx, HF.out.r2, HF.out.r3⟩⟩⟩
        ·
         obtain rfl : l1 = false := (AnyOrder.mem_ready hi).2.1
         clear hi
         refine AnyOrder.wpOp_go rfl (by rfl) ?_
         go_wp2_with fail
         exact ⟨l0, true, l2, l3, l4, l5, l6, l7, l8, l9, l10, l11, l12, l13, l14, g, v1, v2, v3, rfl, rfl, HF⟩
        ·
         obtain rfl : l2 = false := (AnyOrder.mem_ready hi).2.1
         obtain rfl : l0 = true := AnyOrder.dep (q := 0) hi rfl rfl rfl
         obtain rfl : l1 = true := AnyOrder.dep (q := 1) hi rfl rfl rfl
         clear hi
         simp only [sel_true, selv_true] at hK ⊢
         refine AnyOrder.wpOp_go rfl (by rfl) ?_
         refine op_slice 22 (.tmp 38) none (some (.tmp 39)) rfl rfl rfl rfl (cut_toN HKC.out.1 HHO9.out.2.1 V) ?_
         exact hK _ _ ⟨true, true, true, l3, l4, l5, l6, l7, l8, l9, l10, l11, l12, l13, l14, g, v1, v2, v3, rfl, rfl, HF⟩
        ·
         obtain rfl : l3 = false := (AnyOrder.mem_ready hi).2.1
         obtain rfl : l2 = true := AnyOrder.dep (q := 0) hi rfl rfl rfl
         clear hi
         simp only [sel_true, selv_true] at hK ⊢
         obtain ⟨rfl, rfl, rfl⟩ := HF.out.no (.inl rfl)
         refine AnyOrder.wpOp_go rfl (by rfl) ?_
         refine op_append_node V9.drew.heap.size rfl (.const (.slice none 0 0)) (.tmp 40) rfl (.slice none 0 0) [] (out.take k) Ao k co rfl rfl (Kd.R_nil _ _ _ _ _) (C_to (Kd.C_below HHO9.out.2.2 HF.out.below) HHO9.out.1 HKC.out.1) HF.out.below.size (by have h1 := HKC.out.1; have h2 := HKC.out.2; simp; omega) ?_
         intro u1 V1 hr1 hg1 _
         have hb1 := grown_nil hg1
         exact hK _ _ ⟨l0, l1, true, true, l4, l5, l6, l7, l8, false, l10, l11, l12, false, false, g, u1, v2, v3, rfl, rfl, ⟨⟨fun h => (by cases h), fun h => (by cases h), fun h => (by cases h), below_more HF.out.below hb1, fun _ _ => hr1, fun h _ => blk_keep (HF.out.bx h rfl) hb1, fun h _ => (by cases h), fun h => (by cases h)⟩⟩⟩
        ·
         obtain rfl : l4 = false := (AnyOrder.mem_ready hi).2.1
         clear hi
         refine AnyOrder.wpOp_go rfl (by rfl) ?_
         go_wp2_with fail
         exact ⟨l0, l1, l2, l3, true, l5, l6, l7, l8, l9, l10, l11, l12, l13, l14, g, v1, v2, v3, rfl, rfl, HF⟩
        ·
         obtain rfl : l5 = false := (AnyOrder.mem_ready hi).2.1
         clear hi
         refine AnyOrder.wpOp_go rfl (by rfl) ?_
         go_wp2_with fail
         exact ⟨l0, l1, l2, l3, l4, true, l6, l7, l8, l9, l10, l11, l12, l13, l14, g, v1, v2, v3, rfl, rfl, HF⟩
        ·
         obtain rfl : l6 = false := (AnyOrder.mem_ready hi).2.1
         obtain rfl : l4 = true := AnyOrder.dep (q := 0) hi rfl rfl rfl
         obtain rfl : l5 = true := AnyOrder.dep (q := 1) hi rfl rfl rfl
         clear hi
         simp only [sel_true, selv_true] at hK ⊢
         have hkk := HXI.out.1
         have hkl2 := HXI.out.2
         refine AnyOrder.wpOp_go rfl (by rfl) ?_
         go_wp2_with fail
         exact ⟨l0, l1, l2, l3, true, true, true, l7, l8, l9, l10, l11, l12, l13, l14, g, v1, v2, v3, rfl, rfl, HF⟩
        ·
         obtain rfl : l7 = false := (AnyOrder.mem_ready hi).2.1
         obtain rfl : l6 = true := AnyOrder.dep (q := 0) hi rfl rfl rfl
         clear hi
         simp only [sel_true, selv_true] at hK ⊢
         obtain ⟨g0, g1, g2, g3, g4, g5⟩ := HG.out
         have g0 := pw_cell_below HF.out.below g0
         have g1 := pw_cell_below HF.out.below g1
         have g2 := pw_cell_below HF.out.below g2
         have g3 := pw_cell_below HF.out.below g3
         have g4 := pw_cell_below HF.out.below g4
         have g5 := pw_cell_below HF.out.below g5
         refine AnyOrder.wpOp_go rfl (by rfl) ?_
         go_wp2_with fail
         exact ⟨l0, l1, l2, l3, l4, l5, true, true, l8, l9, l10, l11, l12, l13, l14, g, v1, v2, v3, rfl, rfl, HF⟩
        ·
         obtain rfl : l8 = false := (AnyOrder.mem_ready hi).2.1
         obtain rfl : l7 = true := AnyOrder.dep (q := 0) hi rfl rfl rfl
         clear hi
         simp only [sel_true, selv_true] at hK ⊢
         obtain ⟨rfl, rfl, rfl⟩ := HF.out.no (.inr rfl)
         have hb1 := (Gr.alloc V (boxN x)).below
         refine AnyOrder.wpOp_go rfl (by rfl) ?_
         go_wp2_with fail
         exact ⟨l0, l1, l2, l3, l4, l5, l6, true, true, false, l10, l11, l12, false, false, V.heap.size, v1, v2, v3, rfl, rfl, ⟨⟨fun h => (by cases h), fun h => (by cases h), fun h => (by cases h), below_more HF.out.below hb1, fun h _ => RN.below' (HF.out.r1 h rfl) hb1, fun _ _ => blk_new _ _, fun h _ => (by cases h), fun h => (by cases h)⟩⟩⟩
        ·
         obtain rfl : l9 = false := (AnyOrder.mem_ready hi).2.1
         obtain rfl : l3 = true := AnyOrder.dep (q := 0) hi rfl rfl rfl
         obtain rfl : l8 = true := AnyOrder.dep (q := 1) hi rfl rfl rfl
         clear hi
         simp only [sel_true, selv_true] at hK ⊢
         obtain rfl : l13 = false := by cases l13 with | false => rfl | true => cases HF.out.ord13 rfl
         obtain rfl : l14 = false := by cases l14 with | false => rfl | true => cases (HF.out.ord14 rfl).1
         have hr1 := HF.out.r1 rfl rfl
         refine AnyOrder.wpOp_go rfl (by rfl) ?_
         refine op_append_node V9.drew.heap.size rfl (.tmp 41) (.tmp 46) rfl v1 (out.take k) [x] (some ⟨g, 0, none⟩) 1 1 rfl rfl hr1 (boxN_C (HF.out.bx rfl rfl)) HF.out.below.size (by have h1 := HKC.out.1; have h2 := HKC.out.2; rw [List.length_take]; omega) ?_
         intro u2 V2 hr2 hg2 _
         exact hK _ _ ⟨l0, l1, l2, true, l4, l5, l6, l7, true, true, l10, l11, l12, false, false, g, v1, u2, v3, rfl, rfl, ⟨⟨fun _ => ⟨rfl, rfl⟩, fun h => (by cases h), fun h => (by cases h), grown_below HF.out.below hr1 hg2, fun _ h => (by cases h), fun _ h => (by cases h), fun _ _ => hr2, fun h => (by cases h)⟩⟩⟩
        ·
         obtain rfl : l10 = false := (AnyOrder.mem_ready hi).2.1
         clear hi
         obtain rfl : l14 = false := by cases l14 with | false => rfl | true => cases (HF.out.ord14 rfl).2.2
         (try simp only [sel_false, selv_false] at hK ⊢)
         refine AnyOrder.wpOp_go rfl (by rfl) ?_
         go_wp2_with fail
         exact ⟨l0, l1, l2, l3, l4, l5, l6, l7, l8, l9, true, l11, l12, l13, false, g, v1, v2, v3, rfl, rfl, ⟨⟨HF.out.ord9, HF.out.ord13, fun h => (by cases h), HF.out.below, HF.out.r1, HF.out.bx, HF.out.r2, HF.out.r3⟩⟩⟩
        ·
         obtain rfl : l11 = false := (AnyOrder.mem_ready hi).2.1
         clear hi
         refine AnyOrder.wpOp_go rfl (by rfl) ?_
         go_wp2_with fail
         exact ⟨l0, l1, l2, l3, l4, l5, l6, l7, l8, l9, l10, true, l12, l13, l14, g, v1, v2, v3, rfl, rfl, HF⟩
        ·
         obtain rfl : l12 = false := (AnyOrder.mem_ready hi).2.1
         obtain rfl : l10 = true := AnyOrder.dep (q := 0) hi rfl rfl rfl
         obtain rfl : l11 = true := AnyOrder.dep (q := 1) hi rfl rfl rfl
         clear hi
         simp only [sel_true, selv_true] at hK ⊢
         refine AnyOrder.wpOp_go rfl (by rfl) ?_
         refine op_slice 22 (.tmp 48) (some (.tmp 49)) none rfl rfl rfl rfl (HCF.out V) ?_
         exact hK _ _ ⟨l0, l1, l2, l3, l4, l5, l6, l7, l8, l9, true, true, true, l13, l14, g, v1, v2, v3, rfl, rfl, HF⟩
        ·
         obtain rfl : l13 = false := (AnyOrder.mem_ready hi).2.1
         obtain rfl : l9 = true := AnyOrder.dep (q := 0) hi rfl rfl rfl
         obtain rfl : l12 = true := AnyOrder.dep (q := 1) hi rfl rfl rfl
         clear hi
         simp only [sel_true, selv_true] at hK ⊢
         obtain rfl : l14 = false := by cases l14 with | false => rfl | true => cases (HF.out.ord14 rfl).1
         have hr2 := HF.out.r2 rfl rfl
         refine AnyOrder.wpOp_go rfl (by rfl) ?_
         refine op_append_node V9.drew.heap.size rfl (.tmp 47) (.tmp 50) rfl v2 (out.take k ++ [x]) (out.drop k) Ac m3 q3 rfl rfl hr2 (Kd.C_below HCD.out HF.out.below) HF.out.below.size (by have h1 := HKC.out.1; have h2 := HKC.out.2; have h3 := Hm3.out; rw [List.length_append, List.length_take, List.length_singleton]; omega) ?_
         intro u3 V3 hr3 hg3 _
         exact hK _ _ ⟨l0, l1, l2, l3, l4, l5, l6, l7, l8, true, l10, l11, true, true, false, g, v1, v2, u3, rfl, rfl, ⟨⟨HF.out.ord9, fun _ => rfl, fun h => (by cases h), grown_below HF.out.below hr2 hg3, fun _ h => (by cases h), fun _ h => (by cases h), fun _ h => (by cases h), fun _ => by rw [HCUT.out]; exact hr3⟩⟩⟩
        ·
         obtain rfl : l14 = false := (AnyOrder.mem_ready hi).2.1
         obtain rfl : l13 = true := AnyOrder.dep (q := 0) hi rfl rfl rfl
         obtain rfl : l0 = true := AnyOrder.dep (q := 2) hi rfl rfl rfl
         obtain rfl : l1 = true := AnyOrder.dep (q := 3) hi rfl rfl rfl
         obtain rfl : l2 = true := AnyOrder.dep (q := 4) hi rfl rfl rfl
         obtain rfl : l3 = true := AnyOrder.dep (q := 5) hi rfl rfl rfl
         obtain rfl : l4 = true := AnyOrder.dep (q := 6) hi rfl rfl rfl
         obtain rfl : l5 = true := AnyOrder.dep (q := 7) hi rfl rfl rfl
         obtain rfl : l6 = true := AnyOrder.dep (q := 8) hi rfl rfl rfl
         obtain rfl : l7 = true := AnyOrder.dep (q := 9) hi rfl rfl rfl
         obtain rfl : l8 = true := AnyOrder.dep (q := 10) hi rfl rfl rfl
         obtain rfl : l9 = true := AnyOrder.dep (q := 11) hi rfl rfl rfl
         obtain rfl : l10 = true := AnyOrder.dep (q := 12) hi rfl rfl rfl
         obtain rfl : l11 = true := AnyOrder.dep (q := 13) hi rfl rfl rfl
         obtain rfl : l12 = true := AnyOrder.dep (q := 14) hi rfl rfl rfl
         clear hi
         simp only [sel_true, selv_true] at hK ⊢
         refine AnyOrder.wpOp_go rfl (by rfl) ?_
         go_wp2_with fail
         exact ⟨true, true, true, true, true, true, true, true, true, true, true, true, true, true, true, g, v1, v2, v3, rfl, rfl, ⟨⟨HF.out.ord9, HF.out.ord13, fun _ => ⟨rfl, rfl, rfl⟩, HF.out.below, HF.out.r1, HF.out.bx, HF.out.r2, HF.out.r3⟩⟩⟩
       case last =>
        rintro L ac V ⟨l0, l1, l2, l3, l4, l5, l6, l7, l8, l9, l10, l11, l12, l13, l14, g, v1, v2, v3, rfl, rfl, HF⟩ hr
        have hall := AnyOrder.all_listed rfl (by kernel_rfl) hr
        clear hr
        obtain rfl : l0 = true := hall 0 (by decide)
        obtain rfl : l1 = true := hall 1 (by decide)
        obtain rfl : l2 = true := hall 2 (by decide)
        obtain rfl : l3 = true := hall 3 (by decide)
        obtain rfl : l4 = true := hall 4 (by decide)
        obtain rfl : l5 = true := hall 5 (by decide)
        obtain rfl : l6 = true := hall 6 (by decide)
        obtain rfl : l7 = true := hall 7 (by decide)
        obtain rfl : l8 = true := hall 8 (by decide)
        obtain rfl : l9 = true := hall 9 (by decide)
        obtain rfl : l10 = true := hall 10 (by decide)
        obtain rfl : l11 = true := hall 11 (by decide)
        obtain rfl : l12 = true := hall 12 (by decide)
        obtain rfl : l13 = true := hall 13 (by decide)
        obtain rfl : l14 = true := hall 14 (by decide)
        clear hall
        simp only [sel_true, selv_true]
        have HR3 := Aside0.mk (HF.out.r3 rfl)
        have HB3 := Aside0.mk (below_more HB9.out HF.out.below)
        have HK3 := Aside0.mk (blk_keep (blk_keep HHK.out (below_drew1 HHF.out)) HF.out.below)
        have hn4 := HXI.out.2
        obtain ⟨A3, c3, rfl⟩ := RN.slice HR3.out
        obtain ⟨n3, hn3⟩ : ∃ n3, (insB x out).length = n3 := ⟨_, rfl⟩
        rw [hn3] at HR3 ⊢
        clear HF hn3
        go_wp2
        go_roundw
        case rel => exact ⟨i' + 1, A3, n3, c3, by omega, by go_num, rfl, ⟨by rw [HST.out]; exact Kd.R_lower HR3.out HB9.out.size⟩, HK3, HB3⟩
        case measure => simp [intOf] <;> omega
   ·
    have hne : (x.f1.f0 == d.f0 && (x.f1.f1 == d.f1)) = false := by
     rw [Bool.eq_false_iff]
     intro h
     simp only [Bool.and_eq_true, beq_iff_eq] at h
     exact hxd (Dot.ext_iff'.2 h)
    rw [if_neg hxd] at HST
    clear hxd
    go_wp2
    go_quiet (fail)
    have hd := (Gr.drawn (w := wr) ⟨nq, rfl⟩).below
    go_wp2
    go_roundw
    case rel => exact ⟨i' + 1, Ao, no, co, by omega, by go_num, rfl, ⟨by rw [HST.out]; exact RN.below' HO.out hd⟩, ⟨blk_keep HK.out hd⟩, ⟨below_more HB.out hd⟩⟩
    case measure => simp [intOf] <;> omega
  ·
   obtain rfl : i' = n := by omega
   have hltb : decide ((i' : Int) < (i' : Int)) = false := decide_eq_false (by omega)
   have hall : l0.take i' = l0 := List.take_of_length_le (Nat.le_of_eq Hn.out)
   rw [hall] at HO
   go_wp2
   go_ret
   exact ⟨_, rfl, HO.out, HB.out⟩
end Go.Proofs.YtjlpaagnajmogaaGreat.PWalk
end
section
namespace Go.Proofs.YtjlpaagnajmogaaGreat.PWalk
end Go.Proofs.YtjlpaagnajmogaaGreat.PWalk
end
section
namespace Go.Proofs.YtjlpaagnajmogaaGreat.PWalk
end Go.Proofs.YtjlpaagnajmogaaGreat.PWalk
end
section
namespace Go.Proofs.YtjlpaagnajmogaaGreat.PWalk
end Go.Proofs.YtjlpaagnajmogaaGreat.PWalk
end
section
namespace Go.Proofs.YtjlpaagnajmogaaGreat.PWalk
open Go.RowKit Go.Proofs.YtjlpaagnajmogaaGreatW.PrintWords Go.Proofs.YtjlpaagnajmogaaGreatW.PrintLast Go.Proofs.YtjlpaagnajmogaaGreatW.PrintMore
set_option linter.unusedVariables false
set_option linter.unusedSimpArgs false
open Go.Shelf
attribute [local go_sem] Oper.semAt_some
theorem ordered_is {l want : List Node} (hl : l.length ≤ 1000000) (hs : storeOk l = true) (hw : want = nds (ordOf l)) {k : Nat} (hk : (ordOf l).length < k) : redpencillaw11_ordered.f k l want 0 = some true := by
 subst hw
 have hle := ord_le (store_of hs)
 unfold redpencillaw11_ordered.f walk_Order.f
 rw [if_pos hl, if_pos hs]
 simp only [Option.bind_some]
 have := refEqual_is (nds (ordOf l)) (nds (ordOf l)) (by unfold nds; rw [List.length_map]; omega) k (by unfold nds; rw [List.length_map]; omega)
 unfold nds at this ⊢
 rw [this]
 simp
end Go.Proofs.YtjlpaagnajmogaaGreat.PWalk
end
section
namespace Go.Proofs.YtjlpaagnajmogaaGreat.PWalk
end Go.Proofs.YtjlpaagnajmogaaGreat.PWalk
end
section
namespace Go.Proofs.YtjlpaagnajmogaaGreat.PWalk
end Go.Proofs.YtjlpaagnajmogaaGreat.PWalk
end
section
namespace Go.Proofs.YtjlpaagnajmogaaGreat.PWalk
open Go.RowKit Go.Proofs.YtjlpaagnajmogaaGreatW.PrintWords Go.Proofs.YtjlpaagnajmogaaGreatW.PrintLast Go.Proofs.YtjlpaagnajmogaaGreatW.PrintMore
set_option linter.unusedVariables false
set_option linter.unusedSimpArgs false
open Go.Shelf
attribute [local go_sem] Oper.semAt_some
theorem idxN_is (d : Dot) : ∀ (l : List Node) (i : Nat), idxN l i d = (l.findIdx? (dotIs d)).map (· + i)
 | [], i => rfl
 | x :: l, i => by
  rw [List.findIdx?_cons]
  unfold idxN
  by_cases h : d = x.f0
  ·
   rw [if_pos h, if_pos (by unfold dotIs; rw [h]; simp)]
   simp
  ·
   rw [if_neg h, if_neg (by unfold dotIs; intro e; apply h; rw [dot_beq] at e; exact (of_decide_eq_true e).symm), idxN_is d l (i + 1)]
   cases l.findIdx? (dotIs d) with
   | none => rfl
   | some j => simp; omega
theorem find10_is (l : List Node) (hl : l.length ≤ 1000000) (d : Dot) (k : Nat) (hk : l.length < k) : redpencilref10_Find.f k l d.f0 d.f1 = some (idxFrom (dotIs d) l) := by
 rw [refFind_is l hl d k hk, idxN_is]
 unfold idxFrom
 cases l.findIdx? (dotIs d) with
 | none => rfl
 | some j => simp
end Go.Proofs.YtjlpaagnajmogaaGreat.PWalk
end
section
namespace Go.Proofs.YtjlpaagnajmogaaGreat.PWalk
end Go.Proofs.YtjlpaagnajmogaaGreat.PWalk
end
section
namespace Go.Proofs.YtjlpaagnajmogaaGreat.PWalk
end Go.Proofs.YtjlpaagnajmogaaGreat.PWalk
end
section
namespace Go.Proofs.YtjlpaagnajmogaaGreat.PWalk
end Go.Proofs.YtjlpaagnajmogaaGreat.PWalk
end
section
namespace Go.Proofs.YtjlpaagnajmogaaGreat.PWalk
open Go.RowKit Go.Proofs.YtjlpaagnajmogaaGreatW.PrintWords Go.Proofs.YtjlpaagnajmogaaGreatW.PrintLast Go.Proofs.YtjlpaagnajmogaaGreatW.PrintMore
set_option linter.unusedVariables false
set_option linter.unusedSimpArgs false
open Go.Shelf
attribute [local go_sem] Oper.semAt_some
theorem dotLt_tot {a b : Dot} (h : ¬ dotLt a b = true) (hne : a ≠ b) : dotLt b a = true := by
 unfold dotLt at h ⊢
 rw [decide_eq_true_eq] at h ⊢
 have : ¬ (a.f0 = b.f0 ∧ a.f1 = b.f1) := fun e => hne (by cases a; cases b; simp at e; simp [e])
 omega
theorem dotLt_tr {a b c : Dot} (h : dotLt a b = true) (k : dotLt b c = true) : dotLt a c = true := by
 unfold dotLt at h k ⊢
 rw [decide_eq_true_eq] at h k ⊢
 omega
end Go.Proofs.YtjlpaagnajmogaaGreat.PWalk
end
section
namespace Go.Proofs.YtjlpaagnajmogaaGreat.PWalk
open Go.RowKit Go.Proofs.YtjlpaagnajmogaaGreatW.PrintWords Go.Proofs.YtjlpaagnajmogaaGreatW.PrintLast Go.Proofs.YtjlpaagnajmogaaGreatW.PrintMore
set_option linter.unusedVariables false
set_option linter.unusedSimpArgs false
open Go.Shelf
attribute [local go_sem] Oper.semAt_some
def timeOf (l : List Node) : Int := l.foldl (fun m x => if x.f2 > m then x.f2 else m) 0
theorem timeFrom (l : List Node) : ∀ m : Int, m ≤ l.foldl (fun m x => if x.f2 > m then x.f2 else m) m ∧ ∀ x ∈ l, x.f2 ≤ l.foldl (fun m x => if x.f2 > m then x.f2 else m) m := by
 induction l with
 | nil => intro m; exact ⟨Int.le_refl _, fun x hx => by cases hx⟩
 | cons y l ih =>
  intro m
  rw [List.foldl_cons]
  obtain ⟨h1, h2⟩ := ih (if y.f2 > m then y.f2 else m)
  have hc : m ≤ (if y.f2 > m then y.f2 else m) ∧ y.f2 ≤ (if y.f2 > m then y.f2 else m) := by split <;> omega
  refine ⟨Int.le_trans hc.1 h1, fun x hx => ?_⟩
  rcases List.mem_cons.1 hx with rfl | hx
  ·
   exact Int.le_trans hc.2 h1
  ·
   exact h2 x hx
theorem timeFrom_le {M : Int} (l : List Node) : ∀ m : Int, m ≤ M → (∀ x ∈ l, x.f2 ≤ M) → l.foldl (fun m x => if x.f2 > m then x.f2 else m) m ≤ M := by
 induction l with
 | nil => intro m hm _; exact hm
 | cons y l ih =>
  intro m hm h
  rw [List.foldl_cons]
  refine ih _ ?_ fun x hx => h x (List.mem_cons_of_mem _ hx)
  split
  ·
   exact h y (List.mem_cons_self ..)
  ·
   exact hm
theorem time_ge (l : List Node) : 0 ≤ timeOf l ∧ ∀ x ∈ l, x.f2 ≤ timeOf l := timeFrom l 0
theorem time_le {l : List Node} (hs : Store l) : timeOf l ≤ 4611686018427387904 := timeFrom_le l 0 (by omega) fun x hx => by
 have := hs.ok x hx
 unfold nodeOk at this
 rw [decide_eq_true_eq] at this
 exact this.2.2.2.2.1
/-- The store with one node more. -/
def putN (x : Node) : List Node → List Node
 | [] => [x]
 | y :: r => if dotLt y.f0 x.f0 = true then y :: putN x r else x :: y :: r
theorem putN_perm (x : Node) : ∀ l, (putN x l).Perm (x :: l)
 | [] => List.Perm.refl _
 | y :: r => by
  rw [putN]
  split
  ·
   exact ((putN_perm x r).cons y).trans (List.Perm.swap x y r)
  ·
   exact List.Perm.refl _
theorem putN_length (x : Node) (l : List Node) : (putN x l).length = l.length + 1 := (putN_perm x l).length_eq
theorem putN_inc {x : Node} : ∀ {l : List Node}, Inc l → x.f0 ∉ l.map (·.f0) → Inc (putN x l)
 | [], _, _ => List.pairwise_singleton _ _
 | y :: r, h, hx => by
  obtain ⟨h1, h2⟩ := List.pairwise_cons.1 h
  rw [List.map_cons, List.mem_cons] at hx
  rw [putN]
  split
  ·
   rename_i e
   refine List.pairwise_cons.2 ⟨fun z hz => ?_, putN_inc h2 fun e => hx (.inr e)⟩
   rcases List.mem_cons.1 ((putN_perm x r).mem_iff.1 hz) with rfl | hz
   ·
    exact e
   ·
    exact h1 z hz
  ·
   rename_i e
   have hxy : dotLt x.f0 y.f0 = true := dotLt_tot e fun q => hx (.inl q.symm)
   refine List.pairwise_cons.2 ⟨fun z hz => ?_, h⟩
   rcases List.mem_cons.1 hz with rfl | hz
   ·
    exact hxy
   ·
    exact dotLt_tr hxy (h1 z hz)
theorem incB_of : ∀ {l : List Node}, Inc l → incB (l.map (·.f0)) = true
 | [], _ => rfl
 | [_], _ => rfl
 | x :: y :: r, h => by
  obtain ⟨h1, h2⟩ := List.pairwise_cons.1 h
  have := incB_of h2
  simp only [List.map_cons] at this
  simp only [List.map_cons, incB, Bool.and_eq_true]
  exact ⟨h1 y (List.mem_cons_self ..), this⟩
theorem putN_store {x : Node} {l : List Node} (hs : storeOk l = true) (hx : nodeOk x = true) (hn : x.f0 ∉ l.map (·.f0)) : storeOk (putN x l) = true := by
 unfold storeOk
 rw [Bool.and_eq_true, List.all_eq_true]
 refine ⟨fun y hy => ?_, incB_of (putN_inc (store_of hs).inc hn)⟩
 rcases List.mem_cons.1 ((putN_perm x l).mem_iff.1 hy) with rfl | hy
 ·
  exact hx
 ·
  exact (store_of hs).ok y hy
theorem kids_put {l : List Node} {n : Node} (hs : Store l) (hn : n.f0 ∉ l.map (·.f0)) (ht : ∀ x ∈ l, x.f2 < n.f2) (e : Dot) : kids (putN n l) e = if n.f1 = e then n :: kids l e else kids l e := by
 have hi := putN_inc hs.inc hn
 have h1 : (kids (putN n l) e).Perm ((n :: l).filter fun x => decide (x.f1 = e)) := (kids_perm _ _).trans ((putN_perm n l).filter _)
 have hu : ∀ x ∈ kids (putN n l) e, ∀ y ∈ kids (putN n l) e, x.f0 = y.f0 → x = y := fun x hx y hy q => inc_eq hi (mem_kids.1 hx).1 (mem_kids.1 hy).1 q
 rw [List.filter_cons] at h1
 by_cases h : n.f1 = e
 ·
  rw [if_pos h]
  rw [if_pos (by simp [h])] at h1
  refine sorted_unique (h1.trans ((kids_perm l e).symm.cons n)) (kids_sorted _ _) (List.pairwise_cons.2 ⟨fun y hy => ?_, kids_sorted l e⟩) hu
  have := ht y (mem_kids.1 hy).1
  unfold nodeLt
  rw [if_neg (by omega)]
  simp only [decide_eq_false_iff_not]
  omega
 ·
  rw [if_neg h]
  rw [if_neg (by simp [h])] at h1
  exact sorted_unique (h1.trans (kids_perm l e).symm) (kids_sorted _ _) (kids_sorted l e) hu
theorem belowN_none {l : List Node} {d : Dot} (h : kids l d = []) : ∀ (m dep : Nat), belowN l m dep d = []
 | 0, _ => rfl
 | m + 1, dep => by rw [belowN, h]; rfl
def preN (n : Node) (e : Dot) (dep : Nat) : List (Nat × Node) := if n.f1 = e then [(dep, n)] else []
def insAft (n : Node) (L : List (Nat × Node)) : List (Nat × Node) := L.flatMap fun p => p :: preN n p.2.f0 (p.1 + 1)
theorem below_put {l : List Node} {n : Node} (hs : Store l) (hn : n.f0 ∉ l.map (·.f0)) (ht : ∀ x ∈ l, x.f2 < n.f2) (hd : kids (putN n l) n.f0 = []) : ∀ (q m : Nat) (e : Dot) (dep : Nat), Low l q e → q < m →
  belowN (putN n l) m dep e = preN n e dep ++ insAft n (belowN l m dep e) := by
 have hstep : ∀ (m : Nat) (e : Dot) (dep : Nat), (∀ x ∈ kids l e, belowN (putN n l) m (dep + 1) x.f0 = preN n x.f0 (dep + 1) ++ insAft n (belowN l m (dep + 1) x.f0)) → belowN (putN n l) (m + 1) dep e = preN n e dep ++ insAft n (belowN l (m + 1) dep e) := by
  intro m e dep h
  rw [belowN, belowN, kids_put hs hn ht]
  have h2 : (kids l e).flatMap (fun x => (dep, x) :: belowN (putN n l) m (dep + 1) x.f0) = insAft n ((kids l e).flatMap fun x => (dep, x) :: belowN l m (dep + 1) x.f0) := by
   unfold insAft
   rw [List.flatMap_assoc]
   refine flatMap_same fun x hx => ?_
   rw [h x hx, List.flatMap_cons, List.cons_append]
   rfl
  rw [← h2]
  unfold preN
  by_cases hp : n.f1 = e
  ·
   rw [if_pos hp, if_pos hp, List.flatMap_cons, belowN_none hd]
  ·
   rw [if_neg hp, if_neg hp, List.nil_append]
 intro q
 induction q with
 | zero =>
  intro m e dep hl hm
  obtain ⟨m, rfl⟩ : ∃ m', m = m' + 1 := ⟨m - 1, by omega⟩
  exact hstep m e dep fun x hx => by rw [show kids l e = [] from hl] at hx; cases hx
 | succ q ih =>
  intro m e dep hl hm
  obtain ⟨m, rfl⟩ : ∃ m', m = m' + 1 := ⟨m - 1, by omega⟩
  exact hstep m e dep fun x hx => ih m x.f0 (dep + 1) (hl x hx) (by omega)
theorem ins_none {n : Node} : ∀ {L : List Node}, (∀ x ∈ L, n.f1 ≠ x.f0) → L.flatMap (fun x => x :: if n.f1 = x.f0 then [n] else []) = L
 | [], _ => rfl
 | y :: L, h => by
  rw [List.flatMap_cons, ins_none fun x hx => h x (List.mem_cons_of_mem _ hx), if_neg (h y (List.mem_cons_self ..))]
  rfl
theorem nds_ins (n : Node) (L : List (Nat × Node)) : nds (insAft n L) = (nds L).flatMap fun x => x :: if n.f1 = x.f0 then [n] else [] := by
 unfold nds insAft
 rw [List.map_flatMap, List.flatMap_map]
 refine flatMap_same fun p _ => ?_
 unfold preN
 by_cases h : n.f1 = p.2.f0
 ·
  rw [if_pos h, if_pos h]; rfl
 ·
  rw [if_neg h, if_neg h]; rfl
/-- The parent that the law takes: the root, or a reached node. -/
def parAt (O : List Node) : Nat → Dot
 | 0 => ⟨0, 0⟩
 | k + 1 => match O[k]? with | some y => y.f0 | none => ⟨0, 0⟩
theorem grows {l : List Node} (hs : storeOk l = true) {n : Node} (hok : nodeOk n = true) (hnew : n.f0 ∉ l.map (·.f0)) (hk0 : kids l n.f0 = []) (ht : ∀ x ∈ l, x.f2 < n.f2) {k : Nat} (hk : k ≤ (nds (ordOf l)).length) (hp : n.f1 = parAt (nds (ordOf l)) k) :
  nds (ordOf (putN n l)) = (nds (ordOf l)).take k ++ n :: (nds (ordOf l)).drop k := by
 have hS := store_of hs
 have hne : n.f1 ≠ n.f0 := by
  unfold nodeOk at hok
  rw [decide_eq_true_eq] at hok
  exact hok.2.2.1
 have hd : kids (putN n l) n.f0 = [] := by rw [kids_put hS hnew ht, if_neg hne, hk0]
 have hlow := Path.lows hS Path.root
 simp only [List.length_nil, Nat.sub_zero] at hlow
 have h1 : nds (ordOf (putN n l)) = nds (preN n ⟨0, 0⟩ 0) ++ nds (insAft n (ordOf l)) := by
  unfold ordOf belowOf
  rw [putN_length, below_put hS hnew ht hd l.length (l.length + 1 + 1) ⟨0, 0⟩ 0 hlow (by omega), belowN_any 0 hlow (by omega)]
  unfold nds
  rw [List.map_append]
 rw [h1, nds_ins]
 have hmem : ∀ x ∈ nds (ordOf l), x ∈ l := fun x hx => by
  unfold nds at hx
  obtain ⟨p, hp, rfl⟩ := List.mem_map.1 hx
  exact ord_mem hS hp
 cases k with
 | zero =>
  have hp0 : n.f1 = ⟨0, 0⟩ := hp
  rw [ins_none fun x hx e => hS.not_root (hmem x hx) (by rw [← e, hp0])]
  unfold preN
  rw [if_pos hp0]
  rfl
 | succ k =>
  have hkl : k < (nds (ordOf l)).length := by omega
  have hy := List.getElem?_eq_getElem hkl
  have hp1 : n.f1 = (nds (ordOf l))[k].f0 := by rw [hp, parAt, hy]
  have hnr : n.f1 ≠ ⟨0, 0⟩ := by rw [hp1]; exact hS.not_root (hmem _ (List.getElem_mem hkl))
  unfold preN
  rw [if_neg hnr]
  have hO : nds (ordOf l) = (nds (ordOf l)).take k ++ (nds (ordOf l))[k] :: (nds (ordOf l)).drop (k + 1) := by
   rw [← List.drop_eq_getElem_cons hkl, List.take_append_drop]
  have hnd : (nds (ordOf l)).Nodup := ord_nodup hS
  generalize (nds (ordOf l))[k] = y at hO hp1
  generalize (nds (ordOf l)).take k = A at hO
  generalize hB : (nds (ordOf l)).drop (k + 1) = B at hO
  have hyl : y ∈ l := hmem y (by rw [hO]; simp)
  have hout : (∀ x ∈ A, n.f1 ≠ x.f0) ∧ ∀ x ∈ B, n.f1 ≠ x.f0 := by
   rw [hO, List.nodup_append, List.nodup_cons] at hnd
   obtain ⟨_, ⟨hn1, _⟩, hn2⟩ := hnd
   refine ⟨fun x hx e => ?_, fun x hx e => ?_⟩
   ·
    have := inc_eq hS.inc hyl (hmem x (by rw [hO]; simp [hx])) (by rw [← hp1, e])
    exact hn2 x hx y (List.mem_cons_self ..) this.symm
   ·
    have := inc_eq hS.inc hyl (hmem x (by rw [hO]; simp [hx])) (by rw [← hp1, e])
    exact hn1 (by rw [this]; exact hx)
  have hAl : (nds (ordOf l)).take (k + 1) = A ++ [y] := by
   have h3 : (nds (ordOf l)).take (k + 1) ++ B = (A ++ [y]) ++ B := by rw [← hB, List.take_append_drop, hB, List.append_assoc]; exact hO
   exact List.append_cancel_right h3
  rw [hAl]
  show [] ++ (nds (ordOf l)).flatMap _ = _
  rw [hO, List.flatMap_append, List.flatMap_cons, ins_none hout.1, ins_none hout.2, if_pos hp1]
  simp
end Go.Proofs.YtjlpaagnajmogaaGreat.PWalk
end
section
namespace Go.Proofs.YtjlpaagnajmogaaGreat.PWalk
open Go.RowKit Go.Proofs.YtjlpaagnajmogaaGreatW.PrintWords Go.Proofs.YtjlpaagnajmogaaGreatW.PrintLast Go.Proofs.YtjlpaagnajmogaaGreatW.PrintMore
set_option linter.unusedVariables false
set_option linter.unusedSimpArgs false
open Go.Shelf
attribute [local go_sem] Oper.semAt_some
theorem time_take {l : List Node} {k : Nat} {x : Node} (h : l[k]? = some x) : timeOf (l.take (k + 1)) = if x.f2 > timeOf (l.take k) then x.f2 else timeOf (l.take k) := by
 rw [take_get h]
 unfold timeOf
 rw [List.foldl_append]; rfl
set_option maxRecDepth 100000 in
theorem refTime_call (A0 : Option Addr) (c0 : Nat) (l : List Node) (w : World) (hr0 : Kd.C k35 w A0 l.length l) (hl : l.length ≤ 1000000) :
  Calls Tryz.prog 60 #[.slice A0 l.length c0] w fun e w' => e = .returned (.int .i64 (timeOf l)) ∧ w' = w := by
 have HR := Aside0.mk hr0
 obtain ⟨n, Hn⟩ : ∃ n, Aside0 (l.length = n) := ⟨_, ⟨rfl⟩⟩
 have hu := Tryz.underlying35
 rw [Hn.out] at HR hl ⊢
 clear hr0
 go_enter Tryz.func60, Tryz.ntmps60
 go_wp2
 go_loopw [3, 4] (fun v i wr => ∃ (k : Nat) (m : Int), wr = w ∧ v = .int .i64 m ∧ i = .int .i64 k ∧ k ≤ n ∧ Aside0 (timeOf (l.take k) = m)) (fun _ i _ => n - (intOf i).toNat)
 case atStart => exact ⟨0, 0, rfl, rfl, rfl, Nat.zero_le _, ⟨rfl⟩⟩
 case round =>
  obtain ⟨k, m, hw, rfl, rfl, hk, HM⟩ := hrel
  subst hw
  by_cases hlt : k < n
  ·
   obtain ⟨x, hx⟩ : ∃ x, Aside0 (l[k]? = some x) := ⟨_, ⟨List.getElem?_eq_getElem (by rw [Hn.out]; exact hlt)⟩⟩
   obtain ⟨ad, e, h0, h1, h2, h3, h4, h5⟩ := node_at HR.out (Below.refl _ wr) k x hx.out
   subst e
   by_cases hgt : x.f2 > m
   ·
    have hb : decide (x.f2 > m) = true := decide_eq_true hgt
    have HN : Aside0 (timeOf (l.take (k + 1)) = x.f2) := ⟨by rw [time_take hx.out, HM.out, if_pos hgt]⟩
    go_wp2
    go_roundw
    case rel => exact ⟨k + 1, x.f2, by first | trivial | rfl, by first | trivial | rfl, by go_num, by omega, HN⟩
    case measure => simp [intOf]; omega
   ·
    have hb : decide (x.f2 > m) = false := decide_eq_false hgt
    have HN : Aside0 (timeOf (l.take (k + 1)) = m) := ⟨by rw [time_take hx.out, HM.out, if_neg hgt]⟩
    go_wp2
    go_roundw
    case rel => exact ⟨k + 1, m, by first | trivial | rfl, by first | trivial | rfl, by go_num, by omega, HN⟩
    case measure => simp [intOf]; omega
  ·
   go_wp2
   go_ret
   have := HM.out
   rw [List.take_of_length_le (by rw [Hn.out]; omega)] at this
   exact ⟨by rw [this]; first | trivial | rfl, by first | trivial | rfl⟩
end Go.Proofs.YtjlpaagnajmogaaGreat.PWalk
end
section
namespace Go.Proofs.YtjlpaagnajmogaaGreat.PWalk
open Go.RowKit Go.Proofs.YtjlpaagnajmogaaGreatW.PrintWords Go.Proofs.YtjlpaagnajmogaaGreatW.PrintLast Go.Proofs.YtjlpaagnajmogaaGreatW.PrintMore
set_option linter.unusedVariables false
set_option linter.unusedSimpArgs false
open Go.Shelf
attribute [local go_sem] Oper.semAt_some
theorem idx_new {d : Dot} {l : List Node} (h : ¬ idxFrom (dotIs d) l ≥ 0) : d ∉ l.map (·.f0) := by
 intro hm
 obtain ⟨x, hx, e⟩ := List.mem_map.1 hm
 unfold idxFrom at h
 cases hf : l.findIdx? (dotIs d) with
 | none =>
  have := List.findIdx?_eq_none_iff.1 hf x hx
  unfold dotIs at this
  rw [show x.f0 = d from e] at this
  simp at this
 | some i => rw [hf] at h; exact h (by simp)
theorem new_ok {l : List Node} (hs : storeOk l = true) {d : Dot} (hd : dotOk d = true) (hnew : d ∉ l.map (·.f0)) {t : Int} (h0 : 0 ≤ t) (h1 : t < 4611686018427387904) {k : Nat} (hk : k ≤ (nds (ordOf l)).length) :
  nodeOk ⟨d, parAt (nds (ordOf l)) k, t + 1, 110⟩ = true := by
 have hS := store_of hs
 have hp : (dotRoot (parAt (nds (ordOf l)) k) = true ∨ dotOk (parAt (nds (ordOf l)) k) = true) ∧ parAt (nds (ordOf l)) k ≠ d := by
  cases k with
  | zero =>
   refine ⟨.inl rfl, fun e => ?_⟩
   have e' : (⟨0, 0⟩ : Dot) = d := e
   rw [← e'] at hd
   exact absurd hd (by decide)
  | succ k =>
   have hkl : k < (nds (ordOf l)).length := by omega
   have he : parAt (nds (ordOf l)) (k + 1) = (nds (ordOf l))[k].f0 := by rw [parAt, List.getElem?_eq_getElem hkl]
   have hm : (nds (ordOf l))[k] ∈ l := by
    have hx := List.getElem_mem hkl
    unfold nds at hx
    obtain ⟨p, hp, e⟩ := List.mem_map.1 hx
    unfold nds
    rw [← e]
    exact ord_mem hS hp
   rw [he]
   have hok := hS.ok _ hm
   unfold nodeOk at hok
   rw [decide_eq_true_eq] at hok
   exact ⟨.inr hok.1, fun e => hnew (by rw [← e]; exact List.mem_map.2 ⟨_, hm, rfl⟩)⟩
 unfold nodeOk
 rw [decide_eq_true_eq]
 exact ⟨hd, hp.1, hp.2, by show 1 ≤ t + 1; omega, by show t + 1 ≤ _; omega, .inr (show runeOk 110 = true by decide)⟩
theorem op_boxNode {o : Oper} {a : Act} {K : Act → World → Prop} {Q : Exit → Act → World → Prop} (s x : Operand) (ho : o.op = .store 35 s x) (hd : o.dst = none) {w : World} {g : Nat} {y0 : Node}
  (hg : w.heap[g]? = some (boxN y0)) (y : Node) (hs : a.eval s = .pointer (some ⟨g, 0, none⟩)) (hx : a.eval x = vNode y)
  (hk : ∀ w', w'.heap[g]? = some (boxN y) → w.grownBy w' (some g) → K a w') : o.wp Tryz.prog a w K Q := by
 obtain ⟨i0, hi0, hz0, hz1, hz2⟩ := info_parts infoN
 refine wp_store_row 35 s x ho g _ hs hx 35 _ hg (by rw [hi0]; show some i0.size = some 6; rw [hz1]) rfl (Array.all_eq_true_iff_forall_mem.2 (by intro v hv; simp at hv; rcases hv with rfl | rfl | rfl | rfl | rfl | rfl <;> rfl)) ?_
 rw [hd]
 exact hk _ (setRow_at hg _) (setRow_grown w g _)
/-- The operation: the parent is stored into a node's box. -/
theorem wpList_boxParent {ops : Array Oper} {rest : List Oper} {o : Oper} {a : Act} {Q : Exit → Act → World → Prop} (hgd : o.guard = none) (s x : Operand) (ho : o.op = .store 24 s x) (hd : o.dst = none) {w : World} {g : Nat} {y : Node}
  (hg : w.heap[g]? = some (boxN y)) (e : Dot) (hs : a.eval s = .pointer (some ⟨g, 2, none⟩)) (hx : a.eval x = vDot e)
  (hk : ∀ w', w'.heap[g]? = some (boxN ⟨y.f0, e, y.f2, y.f3⟩) → w.grownBy w' (some g) → wpList Tryz.prog ops Q rest a w') : wpList Tryz.prog ops Q (o :: rest) a w := by
 obtain ⟨i0, hi0, hz0, hz1, hz2⟩ := info_get infoD
 have hst := run_storeVar_at (P := Tryz.prog) w g 2 35 24 _ #[.int .i64 e.f0, .int .i64 e.f1] hg (by rw [hi0]; show some i0.size = some 2; rw [hz1]) (by show 2 + 2 ≤ 6; omega) (by intro v hv; simp at hv; rcases hv with rfl | rfl <;> rfl)
 refine wpList_plain hgd fun K hK => ?_
 unfold Oper.wp execOp
 simp only [ho, hs, hx, Instr.storeAt, Instr.sureAddr, Sem.run_bind, Sem.run_pure, Result.andThen_ok, hst]
 show K (a.put o.dst undef) _
 rw [hd]
 exact hK _ _ (hk _ (setRow_at hg _) (setRow_grown w g _))
structure G6F (W0 : World) (x : Node) (l5 l6 : Bool) (g : Nat) (V : World) : Prop where
 ord : l6 = true → l5 = true
 below : Below W0.heap.size W0 V
 ge : l5 = true → W0.heap.size ≤ g
 z : l5 = true → l6 = false → V.heap[g]? = some (boxN nodeZ)
 bx : l6 = true → V.heap[g]? = some (boxN x)
structure G11F (W0 : World) (O : List Node) (x : Node) (k : Nat) (l3 l5 l6 l10 l11 : Bool) (g : Nat) (v1 v2 v3 : Value) (V : World) : Prop where
 ord6 : l6 = true → l3 = true ∧ l5 = true
 ord10 : l10 = true → l6 = true
 ord11 : l11 = true → l10 = true
 below : Below W0.heap.size W0 V
 r1 : l3 = true → l6 = false → RN V W0.heap.size v1 (O.take k)
 bx : l5 = true → l6 = false → V.heap[g]? = some (boxN x)
 r2 : l6 = true → l10 = false → RN V W0.heap.size v2 (O.take k ++ [x])
 r3 : l10 = true → RN V W0.heap.size v3 (O.take k ++ [x] ++ O.drop k)
theorem G11F.no {W0 : World} {O : List Node} {x : Node} {k : Nat} {l3 l5 l6 l10 l11 : Bool} {g : Nat} {v1 v2 v3 : Value} {V : World} (h : G11F W0 O x k l3 l5 l6 l10 l11 g v1 v2 v3 V) (hl : l3 = false ∨ l5 = false) : l6 = false ∧ l10 = false := by
 have h6 : l6 = false := by
  cases l6 with
  | false => rfl
  | true => obtain ⟨rfl, rfl⟩ := h.ord6 rfl; rcases hl with e | e <;> cases e
 refine ⟨h6, ?_⟩
 cases l10 with
 | false => rfl
 | true => have := h.ord10 rfl; rw [h6] at this; cases this
def wg6Inv (W0 : World) (A0 : Option Addr) (n c0 gD : Nat) (d : Dot) (t : Int) (z1 z2 z3 z4 z6 z7 z8 z10 z11 z12 z13 z14 z15 z16 z17 z18 z19 z20 z21 z22 z23 z24 z25 z26 z27 z28 z29 z30 z31 z32 z33 z34 z35 z36 z37 z38 z39 z40 z41 z42 z43 z44 z45 z46 z47 z48 z49 z50 z51 z57 z58 z59 z60 z61 z62 z63 z64 z65 z66 z67 z68 z69 z70 z71 z72 z73 z74 z75 z76 z77 z78 z79 z80 z81 z82 z83 z84 z85 z86 z87 z88 z89 z90 z91 z92 z93 z94 z95 z96 z97 z98 : Value) (L : Array Bool) (ac : Act) (V : World) : Prop := ∃ (l0 l1 l2 l3 l4 l5 l6 : Bool) (g : Nat), L = #[l0, l1, l2, l3, l4, l5, l6] ∧ ac = { tmps := #[.slice A0 n c0, z1, z2, z3, z4, .pointer (some ⟨gD, 0, none⟩), z6, z7, z8, sel l5 (.pointer (some ⟨g, 0, none⟩)), z10, z11, z12, z13, z14, z15, z16, z17, z18, z19, z20, z21, z22, z23, z24, z25, z26, z27, z28, z29, z30, z31, z32, z33, z34, z35, z36, z37, z38, z39, z40, z41, z42, z43, z44, z45, z46, z47, z48, z49, z50, z51, sel l0 (vDot d), sel l1 (.slice A0 n c0), sel l2 (.int .i64 t), sel l3 (.int .i64 (t + 1)), sel l4 (vNode ⟨d, ⟨0, 0⟩, t + 1, 110⟩), z57, z58, z59, z60, z61, z62, z63, z64, z65, z66, z67, z68, z69, z70, z71, z72, z73, z74, z75, z76, z77, z78, z79, z80, z81, z82, z83, z84, z85, z86, z87, z88, z89, z90, z91, z92, z93, z94, z95, z96, z97, z98], defers := [] } ∧ Aside0 (G6F W0 ⟨d, ⟨0, 0⟩, t + 1, 110⟩ l5 l6 g V)
def wg11Inv (W0 : World) (Ao Ac : Option Addr) (N co gN k m3 q3 : Nat) (x : Node) (O : List Node) (z0 z1 z2 z3 z4 z5 z6 z8 z11 z13 z14 z15 z16 z17 z18 z19 z20 z21 z22 z23 z24 z25 z26 z27 z28 z29 z30 z31 z32 z33 z34 z35 z36 z37 z38 z39 z40 z41 z42 z43 z44 z45 z46 z47 z48 z49 z50 z51 z52 z53 z54 z55 z56 z57 z58 z59 z60 z61 z62 z63 z64 z65 z66 z67 z68 z69 z70 z71 z72 z73 z74 z75 z76 z77 z89 z90 z91 z92 z93 z94 z95 z96 z97 z98 : Value) (L : Array Bool) (ac : Act) (V : World) : Prop := ∃ (l0 l1 l2 l3 l4 l5 l6 l7 l8 l9 l10 l11 : Bool) (g : Nat) (v1 : Value) (v2 : Value) (v3 : Value), L = #[l0, l1, l2, l3, l4, l5, l6, l7, l8, l9, l10, l11] ∧ ac = { tmps := #[z0, z1, z2, z3, z4, z5, z6, .slice Ao N co, z8, .pointer (some ⟨gN, 0, none⟩), .int .i64 (k : Int), z11, sel l11 (v3), z13, z14, z15, z16, z17, z18, z19, z20, z21, z22, z23, z24, z25, z26, z27, z28, z29, z30, z31, z32, z33, z34, z35, z36, z37, z38, z39, z40, z41, z42, z43, z44, z45, z46, z47, z48, z49, z50, z51, z52, z53, z54, z55, z56, z57, z58, z59, z60, z61, z62, z63, z64, z65, z66, z67, z68, z69, z70, z71, z72, z73, z74, z75, z76, z77, sel l0 (.slice Ao N co), sel l1 (.int .i64 (k : Int)), sel l2 (.slice Ao k co), sel l3 (v1), sel l4 (vNode x), sel l5 (.slice (some ⟨g, 0, none⟩) 1 1), sel l6 (v2), sel l7 (.slice Ao N co), sel l8 (.int .i64 (k : Int)), sel l9 (.slice Ac m3 q3), sel l10 (v3), z89, z90, z91, z92, z93, z94, z95, z96, z97, z98], defers := [] } ∧ Aside0 (G11F W0 O x k l3 l5 l6 l10 l11 g v1 v2 v3 V)
set_option maxHeartbeats 4000000 in
set_option maxRecDepth 100000 in
theorem WalkGrows.walk (A0 : Option Addr) (c0 : Nat) (ll : List Node) (w : World) (hr0 : Kd.C k35 w A0 ll.length ll) (hc0 : ll.length ≤ c0) (hi : ∀ x ∈ ll, runeIn x.f3) (a1 : Int) (w1 : (Lit.int .u8 a1).wf = true) (d : Dot) :
  Calls Tryz.prog 12 #[.slice A0 ll.length c0, .int .u8 a1, vDot d] w fun e w' => e = .returned (.bool true) ∧ Below w.heap.size w w' := by
 have ha : 0 ≤ a1 ∧ a1 ≤ 255 := by simpa [Lit.wf, IntKind.min, IntKind.max, IntKind.signed, IntKind.bits] using w1
 have HA := Aside0.mk ha
 have HR := Aside0.mk hr0
 have HC := Aside0.mk hc0
 have HX := Aside0.mk (blk_new w (dotC d))
 have HB := Aside0.mk (Gr.alloc w (dotC d)).below
 obtain ⟨n, Hn⟩ : ∃ n, Aside0 (ll.length = n) := ⟨_, ⟨rfl⟩⟩
 by_cases h40 : ll.length > 40
 ·
  have hb2 : decide ((40 : Int) < (n : Int)) = true := decide_eq_true (by have := Hn.out; omega)
  have hb3 : decide ((n : Int) > 40) = true := decide_eq_true (by have := Hn.out; omega)
  rw [Hn.out]
  clear hr0 hc0 hi h40 w1 ha
  go_enter Tryz.func12, Tryz.ntmps12
  go_wp2_with fail
  refine (known_walk _).mono ?_
  rintro e W3 ⟨rfl, hd⟩
  go_wp2
  go_ret
  exact ⟨rfl, below_more HB.out hd⟩
 have HL : Aside0 (ll.length ≤ 40) := ⟨by omega⟩
 have hb2 : decide ((40 : Int) < (n : Int)) = false := decide_eq_false (by have := Hn.out; omega)
 have hb3 : decide ((n : Int) > 40) = false := decide_eq_false (by have := Hn.out; omega)
 obtain ⟨b, Hb⟩ : ∃ b, Aside0 (storeOk ll = b) := ⟨_, ⟨rfl⟩⟩
 have hval := redpencilref10_Valid.calls 1000 A0 c0 ll b (w.alloc (dotC d)) (Kd.C_below hr0 HB.out) hc0 (by rw [refValid_is ll (by omega) hi 1000 (by omega), Hb.out])
 rw [Hn.out] at hval ⊢
 have HVAL := Aside0.mk hval
 clear hr0 hc0 hi h40 hval w1 ha
 go_enter Tryz.func12, Tryz.ntmps12
 go_wp2_with fail
 refine HVAL.out.mono ?_
 rintro e V1 ⟨rfl, hb⟩
 have HX := Aside0.mk (blk_keep HX.out hb)
 have HB := Aside0.mk (below_more HB.out hb)
 clear hb HVAL
 cases b with
 | false =>
  go_wp2_with fail
  refine (known_walk _).mono ?_
  rintro e W3 ⟨rfl, hd⟩
  go_wp2
  go_ret
  exact ⟨rfl, below_more HB.out hd⟩
 | true =>
  have x0 : V1.cell? ⟨w.heap.size, 0, none⟩ = _ := (blk_cell HX.out 0).trans rfl
  have x1 : V1.cell? ⟨w.heap.size, 1, none⟩ = _ := (blk_cell HX.out 1).trans rfl
  obtain ⟨b2, Hb2⟩ : ∃ b, Aside0 (dotOk d = b) := ⟨_, ⟨rfl⟩⟩
  go_wp2_with fail
  refine (redpencilref04_Valid.calls d.f0 d.f1 b2 V1 (by rw [refDot_is, ← Hb2.out])).mono ?_
  rintro e V2 ⟨rfl, hb⟩
  have HX := Aside0.mk (blk_keep HX.out hb)
  have HB := Aside0.mk (below_more HB.out hb)
  clear hb x0 x1
  cases b2 with
  | false =>
   go_wp2_with fail
   refine (known_walk _).mono ?_
   rintro e W3 ⟨rfl, hd⟩
   go_wp2
   go_ret
   exact ⟨rfl, below_more HB.out hd⟩
  | true =>
   have x0 : V2.cell? ⟨w.heap.size, 0, none⟩ = _ := (blk_cell HX.out 0).trans rfl
   have x1 : V2.cell? ⟨w.heap.size, 1, none⟩ = _ := (blk_cell HX.out 1).trans rfl
   obtain ⟨j, Hj⟩ : ∃ j, Aside0 (idxFrom (dotIs d) ll = j) := ⟨_, ⟨rfl⟩⟩
   have hcall := redpencilref10_Find.calls 1000 A0 c0 ll d.f0 d.f1 j V2 (Kd.C_below HR.out HB.out) HC.out (by rw [find10_is ll (by have := HL.out; omega) d 1000 (by have := HL.out; omega), Hj.out])
   rw [Hn.out] at hcall
   have HCALL := Aside0.mk hcall
   clear hcall
   go_wp2_with fail
   refine HCALL.out.mono ?_
   rintro e V3 ⟨rfl, hb⟩
   have HX := Aside0.mk (blk_keep HX.out hb)
   have HB := Aside0.mk (below_more HB.out hb)
   clear hb x0 x1 HCALL
   by_cases hj : j ≥ 0
   ·
    have hj1 : decide (j ≥ 0) = true := decide_eq_true hj
    clear hj
    go_wp2_with fail
    refine (known_walk _).mono ?_
    rintro e W3 ⟨rfl, hd⟩
    go_wp2
    go_ret
    exact ⟨rfl, below_more HB.out hd⟩
   have hj1 : decide (j ≥ 0) = false := decide_eq_false hj
   have HNEW : Aside0 (d ∉ ll.map (·.f0)) := ⟨idx_new (by rw [Hj.out]; exact hj)⟩
   clear hj
   have x0 : V3.cell? ⟨w.heap.size, 0, none⟩ = _ := (blk_cell HX.out 0).trans rfl
   have x1 : V3.cell? ⟨w.heap.size, 1, none⟩ = _ := (blk_cell HX.out 1).trans rfl
   have hcall := redpencilref11_Children.calls A0 c0 ll d.f0 d.f1 (kids ll d) V3 (Kd.C_below HR.out HB.out) HC.out (by unfold redpencilref11_Children.f; rw [if_pos (by have := HL.out; omega)])
   rw [Hn.out] at hcall
   have HCALL := Aside0.mk hcall
   clear hcall
   go_wp2_with fail
   refine HCALL.out.mono ?_
   rintro e V4 ⟨v4, rfl, hr4, hb⟩
   obtain ⟨A4, c4, rfl⟩ := RN.slice hr4
   have HX := Aside0.mk (blk_keep HX.out hb)
   have HB := Aside0.mk (below_more HB.out hb)
   clear hb x0 x1 HCALL hr4
   obtain ⟨m, Hm⟩ : ∃ m, Aside0 ((kids ll d).length = m) := ⟨_, ⟨rfl⟩⟩
   rw [Hm.out]
   by_cases hm : 0 < m
   ·
    have hm1 : decide (0 < m) = true := decide_eq_true hm
    have hm2 : decide ((m : Int) > 0) = true := decide_eq_true (by omega)
    clear hm
    go_wp2_with fail
    refine (known_walk _).mono ?_
    rintro e W3 ⟨rfl, hd⟩
    go_wp2
    go_ret
    exact ⟨rfl, below_more HB.out hd⟩
   have hm1 : decide (0 < m) = false := decide_eq_false hm
   have hm2 : decide ((m : Int) > 0) = false := decide_eq_false (by omega)
   have HK0 : Aside0 (kids ll d = []) := ⟨List.eq_nil_of_length_eq_zero (by rw [Hm.out]; omega)⟩
   clear hm
   obtain ⟨t, HT⟩ : ∃ t, Aside0 (timeOf ll = t) := ⟨_, ⟨rfl⟩⟩
   have hcall := refTime_call A0 c0 ll V4 (Kd.C_below HR.out HB.out) (by have := HL.out; omega)
   rw [Hn.out, HT.out] at hcall
   have HCALL := Aside0.mk hcall
   clear hcall
   go_wp2_with fail
   refine HCALL.out.mono ?_
   rintro e V5 ⟨rfl, rfl⟩
   clear HCALL
   by_cases ht : t = 4611686018427387904
   ·
    have ht1 : (t == 4611686018427387904) = true := by simp [ht]
    clear ht
    go_wp2_with fail
    refine (known_walk _).mono ?_
    rintro e W3 ⟨rfl, hd⟩
    go_wp2
    go_ret
    exact ⟨rfl, below_more HB.out hd⟩
   have ht1 : (t == 4611686018427387904) = false := by simp [ht]
   have HTR : Aside0 (0 ≤ t ∧ t < 4611686018427387904) := ⟨by
    have h1 := (time_ge ll).1
    have h2 := time_le (store_of Hb.out)
    rw [HT.out] at h1 h2
    omega⟩
   have HTW : Aside0 (wrap64 (t + 1) = t + 1) := ⟨by have := HTR.out; unfold wrap64; omega⟩
   clear ht
   obtain ⟨O, HO⟩ : ∃ O, Aside0 (nds (ordOf ll) = O) := ⟨_, ⟨rfl⟩⟩
   obtain ⟨N, HN⟩ : ∃ N, Aside0 (O.length = N) := ⟨_, ⟨rfl⟩⟩
   have HN40 : Aside0 (N ≤ 40) := ⟨by
    have h1 := ord_le (store_of Hb.out)
    have h2 := HL.out
    have h3 : (nds (ordOf ll)).length = (ordOf ll).length := by unfold nds; rw [List.length_map]
    rw [HO.out, HN.out] at h3
    omega⟩
   have hcall := walk_Order.calls A0 c0 ll O 0 V5 (Kd.C_below HR.out HB.out) HC.out (by rw [ord_is (by have := HL.out; omega), if_pos Hb.out, HO.out])
   rw [Hn.out] at hcall
   have HCALL := Aside0.mk hcall
   clear hcall
   go_wp2_with fail
   refine HCALL.out.mono ?_
   clear HCALL
   rintro e W5 ⟨vo, rfl, hro, hb⟩
   have HX := Aside0.mk (blk_keep HX.out hb)
   have HB := Aside0.mk (below_more HB.out hb)
   obtain ⟨Ao, co, rfl⟩ := RN.slice hro
   have HOC := Aside0.mk (RN.C hro).2
   clear hb hro
   rw [HN.out] at HOC ⊢
   have HRN : Aside0 (Kd.C k35 W5 A0 n ll) := ⟨by have := Kd.C_below HR.out HB.out; rwa [Hn.out] at this⟩
   obtain ⟨gD, HgD⟩ : ∃ gD, Aside0 (w.heap.size = gD) := ⟨_, ⟨rfl⟩⟩
   have HBW := HB
   rw [HgD.out] at HX ⊢
   go_wp2_with fail
   refine AnyOrder.wp_region (by kernel_rfl) (wg6Inv W5.drew A0 n c0 gD d t _ _ _ _ _ _ _ _ _ _ _ _ _ _ _ _ _ _ _ _ _ _ _ _ _ _ _ _ _ _ _ _ _ _ _ _ _ _ _ _ _ _ _ _ _ _ _ _ _ _ _ _ _ _ _ _ _ _ _ _ _ _ _ _ _ _ _ _ _ _ _ _ _ _ _ _ _ _ _ _ _ _ _ _ _ _ _ _ _ _ _) ⟨false, false, false, false, false, false, false, 0, rfl, rfl, ⟨⟨fun h => (by cases h), Below.refl _ _, fun h => (by cases h), fun h _ => (by cases h), fun h => (by cases h)⟩⟩⟩ ?step ?last
   case step =>
    rintro L ac V i ⟨l0, l1, l2, l3, l4, l5, l6, g, rfl, rfl, HF⟩ hi K hK
    have h1 : i = 0 ∨ i = 1 ∨ i = 2 ∨ i = 3 ∨ i = 4 ∨ i = 5 ∨ i = 6 := by
     have h1 := (AnyOrder.mem_ready hi).1
     clear hi hK
     change i < 7 at h1
     omega
    rcases h1 with rfl | rfl | rfl | rfl | rfl | rfl | rfl
    ·
     obtain rfl : l0 = false := (AnyOrder.mem_ready hi).2.1
     clear hi
     have hx := blk_keep (blk_drew HX.out) HF.out.below
     have q0 : V.cell? ⟨gD, 0, none⟩ = _ := (blk_cell hx 0).trans rfl
     have q1 : V.cell? ⟨gD, 1, none⟩ = _ := (blk_cell hx 1).trans rfl
     refine AnyOrder.wpOp_go rfl (by rfl) ?_
     go_wp2_with fail
     exact ⟨true, l1, l2, l3, l4, l5, l6, g, rfl, rfl, HF⟩
    ·
     obtain rfl : l1 = false := (AnyOrder.mem_ready hi).2.1
     clear hi
     refine AnyOrder.wpOp_go rfl (by rfl) ?_
     go_wp2_with fail
     exact ⟨l0, true, l2, l3, l4, l5, l6, g, rfl, rfl, HF⟩
    ·
     obtain rfl : l2 = false := (AnyOrder.mem_ready hi).2.1
     obtain rfl : l1 = true := AnyOrder.dep (q := 0) hi rfl rfl rfl
     clear hi
     simp only [sel_true, selv_true] at hK ⊢
     have hh := refTime_call A0 c0 ll V (by rw [Hn.out]; exact Kd.C_below HRN.out (below_more (below_drew1 (Below.refl _ W5)) HF.out.below)) (by have := HL.out; omega)
     rw [Hn.out, HT.out] at hh
     refine AnyOrder.wpOp_go rfl (by rfl) ?_
     go_wp2_with fail
     refine hh.mono ?_
     rintro e V' ⟨rfl, rfl⟩
     exact hK _ _ ⟨l0, true, true, l3, l4, l5, l6, g, rfl, rfl, HF⟩
    ·
     obtain rfl : l3 = false := (AnyOrder.mem_ready hi).2.1
     obtain rfl : l2 = true := AnyOrder.dep (q := 0) hi rfl rfl rfl
     clear hi
     simp only [sel_true, selv_true] at hK ⊢
     refine AnyOrder.wpOp_go rfl (by rfl) ?_
     go_wp2_with fail
     rw [HTW.out]
     exact ⟨l0, l1, true, true, l4, l5, l6, g, rfl, rfl, HF⟩
    ·
     obtain rfl : l4 = false := (AnyOrder.mem_ready hi).2.1
     obtain rfl : l0 = true := AnyOrder.dep (q := 0) hi rfl rfl rfl
     obtain rfl : l3 = true := AnyOrder.dep (q := 1) hi rfl rfl rfl
     clear hi
     simp only [sel_true, selv_true] at hK ⊢
     refine AnyOrder.wpOp_go rfl (by rfl) ?_
     go_wp2_with fail
     exact ⟨true, l1, l2, true, true, l5, l6, g, rfl, rfl, HF⟩
    ·
     obtain rfl : l5 = false := (AnyOrder.mem_ready hi).2.1
     clear hi
     obtain rfl : l6 = false := by cases l6 with | false => rfl | true => cases HF.out.ord rfl
     have hb1 := (Gr.alloc V (boxN nodeZ)).below
     refine AnyOrder.wpOp_go rfl (by rfl) ?_
     go_wp2_with fail
     exact ⟨l0, l1, l2, l3, l4, true, false, V.heap.size, rfl, rfl, ⟨⟨fun h => (by cases h), below_more HF.out.below hb1, fun _ => HF.out.below.size, fun _ _ => blk_new _ _, fun h => (by cases h)⟩⟩⟩
    ·
     obtain rfl : l6 = false := (AnyOrder.mem_ready hi).2.1
     obtain rfl : l5 = true := AnyOrder.dep (q := 0) hi rfl rfl rfl
     obtain rfl : l4 = true := AnyOrder.dep (q := 1) hi rfl rfl rfl
     obtain rfl : l2 = true := AnyOrder.dep (q := 2) hi rfl rfl rfl
     obtain rfl : l0 = true := AnyOrder.dep (q := 3) hi rfl rfl rfl
     obtain rfl : l1 = true := AnyOrder.dep (q := 4) hi rfl rfl rfl
     obtain rfl : l3 = true := AnyOrder.dep (q := 6) hi rfl rfl rfl
     clear hi
     simp only [sel_true, selv_true] at hK ⊢
     refine AnyOrder.wpOp_go rfl (by rfl) ?_
     refine op_boxNode (.tmp 9) (.tmp 56) rfl rfl (HF.out.z rfl rfl) ⟨d, ⟨0, 0⟩, t + 1, 110⟩ rfl rfl ?_
     intro V' hb' hg'
     exact hK _ _ ⟨true, true, true, true, true, true, true, g, rfl, rfl, ⟨⟨fun _ => rfl, HF.out.below.grown hg' HF.out.below.size (fun k e => by have := Option.some.inj e; have := HF.out.ge rfl; omega), HF.out.ge, fun _ h => (by cases h), fun _ => hb'⟩⟩⟩
   case last =>
    rintro L ac V ⟨l0, l1, l2, l3, l4, l5, l6, g, rfl, rfl, HF⟩ hr
    have hall := AnyOrder.all_listed rfl (by kernel_rfl) hr
    clear hr
    obtain rfl : l0 = true := hall 0 (by decide)
    obtain rfl : l1 = true := hall 1 (by decide)
    obtain rfl : l2 = true := hall 2 (by decide)
    obtain rfl : l3 = true := hall 3 (by decide)
    obtain rfl : l4 = true := hall 4 (by decide)
    obtain rfl : l5 = true := hall 5 (by decide)
    obtain rfl : l6 = true := hall 6 (by decide)
    clear hall
    simp only [sel_true, selv_true]
    have HB := Aside0.mk (below_more HB.out (below_more (below_drew1 (Below.refl _ W5)) HF.out.below))
    have HBX := Aside0.mk (HF.out.bx rfl)
    have HB5 := Aside0.mk (below_more (below_drew1 (Below.refl _ W5)) HF.out.below)
    have HGE5 : Aside0 (W5.heap.size ≤ g) := ⟨HF.out.ge rfl⟩
    have HGE : Aside0 (w.heap.size ≤ g) := ⟨by
     have h1 := HF.out.ge rfl
     have h2 : w.heap.size ≤ W5.heap.size := HBW.out.size
     have h3 : W5.drew.heap.size = W5.heap.size := rfl
     omega⟩
    have HOC8 : Aside0 (N ≤ co ∧ Kd.C k35 V Ao N O) := ⟨⟨HOC.out.1, Kd.C_below HOC.out.2 (below_more (below_drew1 (Below.refl _ W5)) HF.out.below)⟩⟩
    clear HF HX HBW
    obtain ⟨k, Hk⟩ : ∃ k : Nat, Aside0 (Int.tmod a1 ((N : Int) + 1) = (k : Int) ∧ k ≤ N) := ⟨(Int.tmod a1 ((N : Int) + 1)).toNat, ⟨by
     have h1 := HA.out
     have h2 := Int.tmod_eq_emod_of_nonneg (a := a1) (b := ((N : Int) + 1)) (by omega)
     have h3 := Int.emod_nonneg a1 (show ((N : Int) + 1) ≠ 0 by omega)
     have h4 := Int.emod_lt_of_pos a1 (show (0 : Int) < (N : Int) + 1 by omega)
     rw [h2]
     omega⟩⟩
    have HKC : Aside0 (k ≤ N ∧ N ≤ 400000) := ⟨⟨Hk.out.2, by have := HN40.out; omega⟩⟩
    obtain ⟨x, Hx⟩ : ∃ x : Node, Aside0 (x = ⟨d, parAt O k, t + 1, 110⟩) := ⟨_, ⟨rfl⟩⟩
    have HKO : Aside0 (k ≤ (nds (ordOf ll)).length) := ⟨by rw [HO.out, HN.out]; exact HKC.out.1⟩
    have HOKX : Aside0 (nodeOk x = true) := ⟨by rw [Hx.out, ← HO.out]; exact new_ok Hb.out Hb2.out HNEW.out HTR.out.1 HTR.out.2 HKO.out⟩
    have HNEWX : Aside0 (x.f0 ∉ ll.map (·.f0)) := ⟨by rw [Hx.out]; exact HNEW.out⟩
    have HPERM : Aside0 ((putN x ll).Perm (ll ++ [x])) := ⟨(putN_perm x ll).trans (List.perm_append_comm (l₁ := [x]) (l₂ := ll))⟩
    have HINC : Aside0 (Inc (putN x ll)) := ⟨putN_inc (store_of Hb.out).inc HNEWX.out⟩
    have HORD : Aside0 (redpencillaw11_ordered.f 1000 (putN x ll) (O.take k ++ [x] ++ O.drop k) 0 = some true) := ⟨by
     have h1 := putN_store Hb.out HOKX.out HNEWX.out
     have h2 := grows Hb.out HOKX.out HNEWX.out (by rw [Hx.out]; exact HK0.out) (fun y hy => by
      have := (time_ge ll).2 y hy
      rw [HT.out] at this
      rw [Hx.out]
      show y.f2 < t + 1
      omega) HKO.out (by rw [Hx.out, HO.out])
     have h3 := ord_le (store_of h1)
     have h4 := putN_length x ll
     have h5 := HL.out
     refine ordered_is (by omega) h1 ?_ (by omega)
     rw [h2, HO.out]
     simp⟩
    obtain ⟨n5, Hn5⟩ : ∃ n5, Aside0 ((putN x ll).length = n5) := ⟨_, ⟨rfl⟩⟩
    obtain ⟨gN, HgN⟩ : ∃ gN, Aside0 (g = gN) := ⟨_, ⟨rfl⟩⟩
    rw [HgN.out] at HBX HGE HGE5 ⊢
    have hti := Hk.out.1
    have hwa : IntKind.i64.wrap a1 = a1 := wrap_small a1 (by have := HA.out; omega) (by have := HA.out; omega)
    have hwn : wrap64 ((N : Int) + 1) = (N : Int) + 1 := by have := HN40.out; unfold wrap64; omega
    have hne : (((N : Int) + 1) == 0) = false := beq_eq_false_iff_ne.2 (by omega)
    have hmne : ¬ ((N : Int) + 1) = 0 := by omega
    by_cases hk0 : 0 < k
    ·
     have hk1 : decide (0 < k) = true := decide_eq_true hk0
     have hk2 : decide ((k : Int) > 0) = true := decide_eq_true (by omega)
     have hks : wrap64 ((k : Int) - 1) = ((k - 1 : Nat) : Int) := by have := HKC.out; unfold wrap64; omega
     have hkl : k - 1 < N := by have := HKC.out; omega
     obtain ⟨y, Hy⟩ : ∃ y, Aside0 (O[k - 1]? = some y) := ⟨_, ⟨List.getElem?_eq_getElem (by rw [HN.out]; exact hkl)⟩⟩
     obtain ⟨ad, e, y0, y1, y2, y3, y4, y5⟩ := node_at HOC8.out.2 (Below.refl _ V) (k - 1) y Hy.out
     subst e
     have hu1 := Tryz.underlying35
     have HX7 : Aside0 (x = ⟨d, y.f0, t + 1, 110⟩) := ⟨by
      rw [Hx.out]
      obtain ⟨k, rfl⟩ : ∃ k', k = k' + 1 := ⟨k - 1, by omega⟩
      rw [parAt, show O[k]? = some y from Hy.out]⟩
     go_upto_region 10 with (first | (refine wpList_boxParent rfl (.tmp 71) (.tmp 70) rfl rfl HBX.out y.f0 rfl rfl ?_; intro W8 hb8 hg8) | fail)
     have HX8 : Aside0 (W8.heap[gN]? = some (boxN x)) := ⟨by rw [HX7.out]; exact hb8⟩
     have HB8 := Aside0.mk (grown_on hg8 HB.out (fun k e => by have := Option.some.inj e; have := HGE.out; omega))
     have HOC8 : Aside0 (N ≤ co ∧ Kd.C k35 W8 (some ad) N O) := ⟨⟨HOC.out.1, Kd.C_below HOC.out.2 (HB5.out.grown hg8 HB5.out.size (fun k e => by have := Option.some.inj e; have := HGE5.out; omega))⟩⟩
     clear hb8 hg8 y0 y1 y2 y3 y4 y5 HBX hti hwa hwn hne hmne hk1 hk2 hks hk0
     have hcall := store_Put.calls A0 c0 ll x (putN x ll) W8 (Kd.C_below HR.out HB8.out) HC.out (by have := HL.out; omega) Hb.out HOKX.out HNEWX.out HPERM.out HINC.out
     rw [Hn.out] at hcall
     have HCALL := Aside0.mk hcall
     clear hcall
     obtain ⟨e0, e1, e2, e3, e4, e5⟩ := box_cells HX8.out
     go_wp2_with fail
     refine HCALL.out.mono ?_
     clear HCALL
     rintro e W9 ⟨vp, rfl, hrp, hb⟩
     have HBN := Aside0.mk (blk_keep HX8.out hb)
     have HB9 := Aside0.mk (below_more HB8.out hb)
     have HOW : Aside0 (O.length = N ∧ N ≤ co ∧ Kd.C k35 W9 (some ad) N O) := ⟨⟨HN.out, HOC8.out.1, Kd.C_below HOC8.out.2 hb⟩⟩
     obtain ⟨Ap, cp, rfl⟩ := RN.slice hrp
     have HP := Aside0.mk (RN.C hrp).2
     clear hrp hb e0 e1 e2 e3 e4 e5
     rw [Hn5.out] at HP ⊢
     obtain ⟨m3, Hm3⟩ : ∃ m3, Aside0 (N - k = m3) := ⟨_, ⟨rfl⟩⟩
     obtain ⟨q3, Hq3⟩ : ∃ q3, Aside0 (co - k = q3) := ⟨_, ⟨rfl⟩⟩
     obtain ⟨Ac, HAc⟩ : ∃ Ac, Aside0 ((if co = k then (some ad) else Option.map (·.add (k * 6)) (some ad)) = Ac) := ⟨_, ⟨rfl⟩⟩
     have HCD : Aside0 (Kd.C k35 W9 Ac m3 (O.drop k)) := ⟨by rw [← HAc.out, ← Hm3.out]; exact C_from HOW.out.2.2 HOW.out.1 HKC.out.1 HOW.out.2.1⟩
     have HCF : Aside0 (∀ W, (Instr.sliceAt 22 (.slice (some ad) N co) (some (.int .i64 (k : Int))) none none).run Tryz.prog W = .ok (.slice Ac m3 q3) W) := ⟨fun W => by rw [← HAc.out, ← Hm3.out, ← Hq3.out]; exact cut_fromN HKC.out.1 W⟩
     go_wp2_with fail
     refine AnyOrder.wp_region (by kernel_rfl) (wg11Inv W9.drew (some ad) Ac N co gN k m3 q3 x O _ _ _ _ _ _ _ _ _ _ _ _ _ _ _ _ _ _ _ _ _ _ _ _ _ _ _ _ _ _ _ _ _ _ _ _ _ _ _ _ _ _ _ _ _ _ _ _ _ _ _ _ _ _ _ _ _ _ _ _ _ _ _ _ _ _ _ _ _ _ _ _ _ _ _ _ _ _ _ _ _ _ _ _) ⟨false, false, false, false, false, false, false, false, false, false, false, false, 0, undef, undef, undef, rfl, rfl, ⟨⟨fun h => (by cases h), fun h => (by cases h), fun h => (by cases h), Below.refl _ _, fun h _ => (by cases h), fun h _ => (by cases h), fun h _ => (by cases h), fun h => (by cases h)⟩⟩⟩ ?step ?last
     case step =>
      rintro L ac V i ⟨l0, l1, l2, l3, l4, l5, l6, l7, l8, l9, l10, l11, g, v1, v2, v3, rfl, rfl, HF⟩ hi K hK
      have h1 : i = 0 ∨ i = 1 ∨ i = 2 ∨ i = 3 ∨ i = 4 ∨ i = 5 ∨ i = 6 ∨ i = 7 ∨ i = 8 ∨ i = 9 ∨ i = 10 ∨ i = 11 := by
       have h1 := (AnyOrder.mem_ready hi).1
       clear hi hK
       change i < 12 at h1
       omega
      rcases h1 with rfl | rfl | rfl | rfl | rfl | rfl | rfl | rfl | rfl | rfl | rfl | rfl
      ·
       obtain rfl : l0 = false := (AnyOrder.mem_ready hi).2.1
       clear hi
       refine AnyOrder.wpOp_go rfl (by rfl) ?_
       go_wp2_with fail
       exact ⟨true, l1, l2, l3, l4, l5, l6, l7, l8, l9, l10, l11, g, v1, v2, v3, rfl, rfl, HF⟩
      ·
       obtain rfl : l1 = false := (AnyOrder.mem_ready hi).2.1
       clear hi
       refine AnyOrder.wpOp_go rfl (by rfl) ?_
       go_wp2_with fail
       exact ⟨l0, true, l2, l3, l4, l5, l6, l7, l8, l9, l10, l11, g, v1, v2, v3, rfl, rfl, HF⟩
      ·
       obtain rfl : l2 = false := (AnyOrder.mem_ready hi).2.1
       obtain rfl : l0 = true := AnyOrder.dep (q := 0) hi rfl rfl rfl
       obtain rfl : l1 = true := AnyOrder.dep (q := 1) hi rfl rfl rfl
       clear hi
       simp only [sel_true, selv_true] at hK ⊢
       refine AnyOrder.wpOp_go rfl (by rfl) ?_
       refine op_slice 22 (.tmp 78) none (some (.tmp 79)) rfl rfl rfl rfl (cut_toN HKC.out.1 HOW.out.2.1 V) ?_
       exact hK _ _ ⟨true, true, true, l3, l4, l5, l6, l7, l8, l9, l10, l11, g, v1, v2, v3, rfl, rfl, HF⟩
      ·
       obtain rfl : l3 = false := (AnyOrder.mem_ready hi).2.1
       obtain rfl : l2 = true := AnyOrder.dep (q := 0) hi rfl rfl rfl
       clear hi
       simp only [sel_true, selv_true] at hK ⊢
       obtain ⟨rfl, rfl⟩ := HF.out.no (.inl rfl)
       refine AnyOrder.wpOp_go rfl (by rfl) ?_
       refine op_append_node W9.drew.heap.size rfl (.const (.slice none 0 0)) (.tmp 80) rfl (.slice none 0 0) [] (O.take k) (some ad) k co rfl rfl (Kd.R_nil _ _ _ _ _) (C_to (Kd.C_below HOW.out.2.2 (below_more (below_drew1 (Below.refl _ W9)) HF.out.below)) HOW.out.1 HKC.out.1) HF.out.below.size (by have h1 := HKC.out.1; have h2 := HKC.out.2; simp; omega) ?_
       intro u1 V1 hr1 hg1 _
       have hb1 := grown_nil hg1
       exact hK _ _ ⟨l0, l1, true, true, l4, l5, false, l7, l8, l9, false, l11, g, u1, v2, v3, rfl, rfl, ⟨⟨fun h => (by cases h), fun h => (by cases h), HF.out.ord11, below_more HF.out.below hb1, fun _ _ => hr1, fun h _ => blk_keep (HF.out.bx h rfl) hb1, fun h _ => (by cases h), fun h => (by cases h)⟩⟩⟩
      ·
       obtain rfl : l4 = false := (AnyOrder.mem_ready hi).2.1
       clear hi
       obtain ⟨e0, e1, e2, e3, e4, e5⟩ := box_cells (blk_keep (blk_drew HBN.out) HF.out.below)
       refine AnyOrder.wpOp_go rfl (by rfl) ?_
       go_wp2_with fail
       exact ⟨l0, l1, l2, l3, true, l5, l6, l7, l8, l9, l10, l11, g, v1, v2, v3, rfl, rfl, HF⟩
      ·
       obtain rfl : l5 = false := (AnyOrder.mem_ready hi).2.1
       obtain rfl : l4 = true := AnyOrder.dep (q := 0) hi rfl rfl rfl
       clear hi
       simp only [sel_true, selv_true] at hK ⊢
       obtain ⟨rfl, rfl⟩ := HF.out.no (.inr rfl)
       have hb1 := (Gr.alloc V (boxN x)).below
       refine AnyOrder.wpOp_go rfl (by rfl) ?_
       go_wp2_with fail
       exact ⟨l0, l1, l2, l3, true, true, false, l7, l8, l9, false, l11, V.heap.size, v1, v2, v3, rfl, rfl, ⟨⟨fun h => (by cases h), fun h => (by cases h), HF.out.ord11, below_more HF.out.below hb1, fun h _ => RN.below' (HF.out.r1 h rfl) hb1, fun _ _ => blk_new _ _, fun h _ => (by cases h), fun h => (by cases h)⟩⟩⟩
      ·
       obtain rfl : l6 = false := (AnyOrder.mem_ready hi).2.1
       obtain rfl : l3 = true := AnyOrder.dep (q := 0) hi rfl rfl rfl
       obtain rfl : l5 = true := AnyOrder.dep (q := 1) hi rfl rfl rfl
       clear hi
       simp only [sel_true, selv_true] at hK ⊢
       obtain rfl : l10 = false := by cases l10 with | false => rfl | true => cases HF.out.ord10 rfl
       have hr1 := HF.out.r1 rfl rfl
       refine AnyOrder.wpOp_go rfl (by rfl) ?_
       refine op_append_node W9.drew.heap.size rfl (.tmp 81) (.tmp 83) rfl v1 (O.take k) [x] (some ⟨g, 0, none⟩) 1 1 rfl rfl hr1 (boxN_C (HF.out.bx rfl rfl)) HF.out.below.size (by have h1 := HKC.out.1; have h2 := HKC.out.2; rw [List.length_take]; omega) ?_
       intro u2 V2 hr2 hg2 _
       exact hK _ _ ⟨l0, l1, l2, true, l4, true, true, l7, l8, l9, false, l11, g, v1, u2, v3, rfl, rfl, ⟨⟨fun _ => ⟨rfl, rfl⟩, fun h => (by cases h), HF.out.ord11, grown_below HF.out.below hr1 hg2, fun _ h => (by cases h), fun _ h => (by cases h), fun _ _ => hr2, fun h => (by cases h)⟩⟩⟩
      ·
       obtain rfl : l7 = false := (AnyOrder.mem_ready hi).2.1
       clear hi
       refine AnyOrder.wpOp_go rfl (by rfl) ?_
       go_wp2_with fail
       exact ⟨l0, l1, l2, l3, l4, l5, l6, true, l8, l9, l10, l11, g, v1, v2, v3, rfl, rfl, HF⟩
      ·
       obtain rfl : l8 = false := (AnyOrder.mem_ready hi).2.1
       clear hi
       refine AnyOrder.wpOp_go rfl (by rfl) ?_
       go_wp2_with fail
       exact ⟨l0, l1, l2, l3, l4, l5, l6, l7, true, l9, l10, l11, g, v1, v2, v3, rfl, rfl, HF⟩
      ·
       obtain rfl : l9 = false := (AnyOrder.mem_ready hi).2.1
       obtain rfl : l7 = true := AnyOrder.dep (q := 0) hi rfl rfl rfl
       obtain rfl : l8 = true := AnyOrder.dep (q := 1) hi rfl rfl rfl
       clear hi
       simp only [sel_true, selv_true] at hK ⊢
       refine AnyOrder.wpOp_go rfl (by rfl) ?_
       refine op_slice 22 (.tmp 85) (some (.tmp 86)) none rfl rfl rfl rfl (HCF.out V) ?_
       exact hK _ _ ⟨l0, l1, l2, l3, l4, l5, l6, true, true, true, l10, l11, g, v1, v2, v3, rfl, rfl, HF⟩
      ·
       obtain rfl : l10 = false := (AnyOrder.mem_ready hi).2.1
       obtain rfl : l6 = true := AnyOrder.dep (q := 0) hi rfl rfl rfl
       obtain rfl : l9 = true := AnyOrder.dep (q := 1) hi rfl rfl rfl
       clear hi
       simp only [sel_true, selv_true] at hK ⊢
       obtain rfl : l11 = false := by cases l11 with | false => rfl | true => cases HF.out.ord11 rfl
       have hr2 := HF.out.r2 rfl rfl
       refine AnyOrder.wpOp_go rfl (by rfl) ?_
       refine op_append_node W9.drew.heap.size rfl (.tmp 84) (.tmp 87) rfl v2 (O.take k ++ [x]) (O.drop k) Ac m3 q3 rfl rfl hr2 (Kd.C_below HCD.out (below_more (below_drew1 (Below.refl _ W9)) HF.out.below)) HF.out.below.size (by have h1 := HKC.out.1; have h2 := HKC.out.2; have h3 := Hm3.out; rw [List.length_append, List.length_take, List.length_singleton]; omega) ?_
       intro u3 V3 hr3 hg3 _
       exact hK _ _ ⟨l0, l1, l2, l3, l4, l5, true, l7, l8, true, true, false, g, v1, v2, u3, rfl, rfl, ⟨⟨HF.out.ord6, fun _ => rfl, fun h => (by cases h), grown_below HF.out.below hr2 hg3, fun _ h => (by cases h), fun _ h => (by cases h), fun _ h => (by cases h), fun _ => hr3⟩⟩⟩
      ·
       obtain rfl : l11 = false := (AnyOrder.mem_ready hi).2.1
       obtain rfl : l10 = true := AnyOrder.dep (q := 0) hi rfl rfl rfl
       obtain rfl : l0 = true := AnyOrder.dep (q := 2) hi rfl rfl rfl
       obtain rfl : l1 = true := AnyOrder.dep (q := 3) hi rfl rfl rfl
       obtain rfl : l2 = true := AnyOrder.dep (q := 4) hi rfl rfl rfl
       obtain rfl : l3 = true := AnyOrder.dep (q := 5) hi rfl rfl rfl
       obtain rfl : l4 = true := AnyOrder.dep (q := 6) hi rfl rfl rfl
       obtain rfl : l5 = true := AnyOrder.dep (q := 7) hi rfl rfl rfl
       obtain rfl : l6 = true := AnyOrder.dep (q := 8) hi rfl rfl rfl
       obtain rfl : l7 = true := AnyOrder.dep (q := 9) hi rfl rfl rfl
       obtain rfl : l8 = true := AnyOrder.dep (q := 10) hi rfl rfl rfl
       obtain rfl : l9 = true := AnyOrder.dep (q := 11) hi rfl rfl rfl
       clear hi
       simp only [sel_true, selv_true] at hK ⊢
       refine AnyOrder.wpOp_go rfl (by rfl) ?_
       go_wp2_with fail
       exact ⟨true, true, true, true, true, true, true, true, true, true, true, true, g, v1, v2, v3, rfl, rfl, ⟨⟨HF.out.ord6, HF.out.ord10, fun _ => rfl, HF.out.below, HF.out.r1, HF.out.bx, HF.out.r2, HF.out.r3⟩⟩⟩
     case last =>
      rintro L ac V ⟨l0, l1, l2, l3, l4, l5, l6, l7, l8, l9, l10, l11, g, v1, v2, v3, rfl, rfl, HF⟩ hr
      have hall := AnyOrder.all_listed rfl (by kernel_rfl) hr
      clear hr
      obtain rfl : l0 = true := hall 0 (by decide)
      obtain rfl : l1 = true := hall 1 (by decide)
      obtain rfl : l2 = true := hall 2 (by decide)
      obtain rfl : l3 = true := hall 3 (by decide)
      obtain rfl : l4 = true := hall 4 (by decide)
      obtain rfl : l5 = true := hall 5 (by decide)
      obtain rfl : l6 = true := hall 6 (by decide)
      obtain rfl : l7 = true := hall 7 (by decide)
      obtain rfl : l8 = true := hall 8 (by decide)
      obtain rfl : l9 = true := hall 9 (by decide)
      obtain rfl : l10 = true := hall 10 (by decide)
      obtain rfl : l11 = true := hall 11 (by decide)
      clear hall
      simp only [sel_true, selv_true]
      have hr3 := HF.out.r3 rfl
      have HBV := Aside0.mk (below_more (below_drew1 (Below.refl _ W9)) HF.out.below)
      obtain ⟨A3, c3, rfl⟩ := RN.slice hr3
      obtain ⟨n3, Hn3⟩ : ∃ n3, Aside0 ((O.take k ++ [x] ++ O.drop k).length = n3) := ⟨_, ⟨rfl⟩⟩
      have hcall := redpencillaw11_ordered.calls 1000 Ap cp (putN x ll) A3 c3 (O.take k ++ [x] ++ O.drop k) 0 true V (by rw [Hn5.out]; exact Kd.C_below HP.out.2 HBV.out) (by rw [Hn5.out]; exact HP.out.1) (RN.C hr3).2.2 (RN.C hr3).2.1 HORD.out
      rw [Hn5.out, Hn3.out] at hcall
      have HCALL := Aside0.mk hcall
      rw [Hn3.out]
      have HB := Aside0.mk (below_more HB9.out HBV.out)
      clear hcall hr3 HF
      go_wp2_with fail
      refine HCALL.out.mono ?_
      rintro e W10 ⟨rfl, hb⟩
      have HB := Aside0.mk (below_more HB.out hb)
      clear hb HCALL
      go_wp2_with fail
      refine (known_walk _).mono ?_
      rintro e W11 ⟨rfl, hd⟩
      go_wp2
      go_ret
      exact ⟨rfl, below_more HB.out hd⟩
    ·
     have hk1 : decide (0 < k) = false := decide_eq_false hk0
     have hk2 : decide ((k : Int) > 0) = false := decide_eq_false (by omega)
     have HX8 : Aside0 (V.heap[gN]? = some (boxN x)) := ⟨by
      rw [Hx.out]
      obtain rfl : k = 0 := by omega
      exact HBX.out⟩
     have HB8 := HB
     clear HBX hk0
     have hcall := store_Put.calls A0 c0 ll x (putN x ll) V (Kd.C_below HR.out HB8.out) HC.out (by have := HL.out; omega) Hb.out HOKX.out HNEWX.out HPERM.out HINC.out
     rw [Hn.out] at hcall
     have HCALL := Aside0.mk hcall
     clear hcall
     obtain ⟨e0, e1, e2, e3, e4, e5⟩ := box_cells HX8.out
     go_wp2_with fail
     refine HCALL.out.mono ?_
     clear HCALL
     rintro e W9 ⟨vp, rfl, hrp, hb⟩
     have HBN := Aside0.mk (blk_keep HX8.out hb)
     have HB9 := Aside0.mk (below_more HB8.out hb)
     have HOW : Aside0 (O.length = N ∧ N ≤ co ∧ Kd.C k35 W9 Ao N O) := ⟨⟨HN.out, HOC8.out.1, Kd.C_below HOC8.out.2 hb⟩⟩
     obtain ⟨Ap, cp, rfl⟩ := RN.slice hrp
     have HP := Aside0.mk (RN.C hrp).2
     clear hrp hb e0 e1 e2 e3 e4 e5
     rw [Hn5.out] at HP ⊢
     obtain ⟨m3, Hm3⟩ : ∃ m3, Aside0 (N - k = m3) := ⟨_, ⟨rfl⟩⟩
     obtain ⟨q3, Hq3⟩ : ∃ q3, Aside0 (co - k = q3) := ⟨_, ⟨rfl⟩⟩
     obtain ⟨Ac, HAc⟩ : ∃ Ac, Aside0 ((if co = k then Ao else Option.map (·.add (k * 6)) Ao) = Ac) := ⟨_, ⟨rfl⟩⟩
     have HCD : Aside0 (Kd.C k35 W9 Ac m3 (O.drop k)) := ⟨by rw [← HAc.out, ← Hm3.out]; exact C_from HOW.out.2.2 HOW.out.1 HKC.out.1 HOW.out.2.1⟩
     have HCF : Aside0 (∀ W, (Instr.sliceAt 22 (.slice Ao N co) (some (.int .i64 (k : Int))) none none).run Tryz.prog W = .ok (.slice Ac m3 q3) W) := ⟨fun W => by rw [← HAc.out, ← Hm3.out, ← Hq3.out]; exact cut_fromN HKC.out.1 W⟩
     go_wp2_with fail
     refine AnyOrder.wp_region (by kernel_rfl) (wg11Inv W9.drew Ao Ac N co gN k m3 q3 x O _ _ _ _ _ _ _ _ _ _ _ _ _ _ _ _ _ _ _ _ _ _ _ _ _ _ _ _ _ _ _ _ _ _ _ _ _ _ _ _ _ _ _ _ _ _ _ _ _ _ _ _ _ _ _ _ _ _ _ _ _ _ _ _ _ _ _ _ _ _ _ _ _ _ _ _ _ _ _ _ _ _ _ _) ⟨false, false, false, false, false, false, false, false, false, false, false, false, 0, undef, undef, undef, rfl, rfl, ⟨⟨fun h => (by cases h), fun h => (by cases h), fun h => (by cases h), Below.refl _ _, fun h _ => (by cases h), fun h _ => (by cases h), fun h _ => (by cases h), fun h => (by cases h)⟩⟩⟩ ?step ?last
     case step =>
      rintro L ac V i ⟨l0, l1, l2, l3, l4, l5, l6, l7, l8, l9, l10, l11, g, v1, v2, v3, rfl, rfl, HF⟩ hi K hK
      have h1 : i = 0 ∨ i = 1 ∨ i = 2 ∨ i = 3 ∨ i = 4 ∨ i = 5 ∨ i = 6 ∨ i = 7 ∨ i = 8 ∨ i = 9 ∨ i = 10 ∨ i = 11 := by
       have h1 := (AnyOrder.mem_ready hi).1
       clear hi hK
       change i < 12 at h1
       omega
      rcases h1 with rfl | rfl | rfl | rfl | rfl | rfl | rfl | rfl | rfl | rfl | rfl | rfl
      ·
       obtain rfl : l0 = false := (AnyOrder.mem_ready hi).2.1
       clear hi
       refine AnyOrder.wpOp_go rfl (by rfl) ?_
       go_wp2_with fail
       exact ⟨true, l1, l2, l3, l4, l5, l6, l7, l8, l9, l10, l11, g, v1, v2, v3, rfl, rfl, HF⟩
      ·
       obtain rfl : l1 = false := (AnyOrder.mem_ready hi).2.1
       clear hi
       refine AnyOrder.wpOp_go rfl (by rfl) ?_
       go_wp2_with fail
       exact ⟨l0, true, l2, l3, l4, l5, l6, l7, l8, l9, l10, l11, g, v1, v2, v3, rfl, rfl, HF⟩
      ·
       obtain rfl : l2 = false := (AnyOrder.mem_ready hi).2.1
       obtain rfl : l0 = true := AnyOrder.dep (q := 0) hi rfl rfl rfl
       obtain rfl : l1 = true := AnyOrder.dep (q := 1) hi rfl rfl rfl
       clear hi
       simp only [sel_true, selv_true] at hK ⊢
       refine AnyOrder.wpOp_go rfl (by rfl) ?_
       refine op_slice 22 (.tmp 78) none (some (.tmp 79)) rfl rfl rfl rfl (cut_toN HKC.out.1 HOW.out.2.1 V) ?_
       exact hK _ _ ⟨true, true, true, l3, l4, l5, l6, l7, l8, l9, l10, l11, g, v1, v2, v3, rfl, rfl, HF⟩
      ·
       obtain rfl : l3 = false := (AnyOrder.mem_ready hi).2.1
       obtain rfl : l2 = true := AnyOrder.dep (q := 0) hi rfl rfl rfl
       clear hi
       simp only [sel_true, selv_true] at hK ⊢
       obtain ⟨rfl, rfl⟩ := HF.out.no (.inl rfl)
       refine AnyOrder.wpOp_go rfl (by rfl) ?_
       refine op_append_node W9.drew.heap.size rfl (.const (.slice none 0 0)) (.tmp 80) rfl (.slice none 0 0) [] (O.take k) Ao k co rfl rfl (Kd.R_nil _ _ _ _ _) (C_to (Kd.C_below HOW.out.2.2 (below_more (below_drew1 (Below.refl _ W9)) HF.out.below)) HOW.out.1 HKC.out.1) HF.out.below.size (by have h1 := HKC.out.1; have h2 := HKC.out.2; simp; omega) ?_
       intro u1 V1 hr1 hg1 _
       have hb1 := grown_nil hg1
       exact hK _ _ ⟨l0, l1, true, true, l4, l5, false, l7, l8, l9, false, l11, g, u1, v2, v3, rfl, rfl, ⟨⟨fun h => (by cases h), fun h => (by cases h), HF.out.ord11, below_more HF.out.below hb1, fun _ _ => hr1, fun h _ => blk_keep (HF.out.bx h rfl) hb1, fun h _ => (by cases h), fun h => (by cases h)⟩⟩⟩
      ·
       obtain rfl : l4 = false := (AnyOrder.mem_ready hi).2.1
       clear hi
       obtain ⟨e0, e1, e2, e3, e4, e5⟩ := box_cells (blk_keep (blk_drew HBN.out) HF.out.below)
       refine AnyOrder.wpOp_go rfl (by rfl) ?_
       go_wp2_with fail
       exact ⟨l0, l1, l2, l3, true, l5, l6, l7, l8, l9, l10, l11, g, v1, v2, v3, rfl, rfl, HF⟩
      ·
       obtain rfl : l5 = false := (AnyOrder.mem_ready hi).2.1
       obtain rfl : l4 = true := AnyOrder.dep (q := 0) hi rfl rfl rfl
       clear hi
       simp only [sel_true, selv_true] at hK ⊢
       obtain ⟨rfl, rfl⟩ := HF.out.no (.inr rfl)
       have hb1 := (Gr.alloc V (boxN x)).below
       refine AnyOrder.wpOp_go rfl (by rfl) ?_
       go_wp2_with fail
       exact ⟨l0, l1, l2, l3, true, true, false, l7, l8, l9, false, l11, V.heap.size, v1, v2, v3, rfl, rfl, ⟨⟨fun h => (by cases h), fun h => (by cases h), HF.out.ord11, below_more HF.out.below hb1, fun h _ => RN.below' (HF.out.r1 h rfl) hb1, fun _ _ => blk_new _ _, fun h _ => (by cases h), fun h => (by cases h)⟩⟩⟩
      ·
       obtain rfl : l6 = false := (AnyOrder.mem_ready hi).2.1
       obtain rfl : l3 = true := AnyOrder.dep (q := 0) hi rfl rfl rfl
       obtain rfl : l5 = true := AnyOrder.dep (q := 1) hi rfl rfl rfl
       clear hi
       simp only [sel_true, selv_true] at hK ⊢
       obtain rfl : l10 = false := by cases l10 with | false => rfl | true => cases HF.out.ord10 rfl
       have hr1 := HF.out.r1 rfl rfl
       refine AnyOrder.wpOp_go rfl (by rfl) ?_
       refine op_append_node W9.drew.heap.size rfl (.tmp 81) (.tmp 83) rfl v1 (O.take k) [x] (some ⟨g, 0, none⟩) 1 1 rfl rfl hr1 (boxN_C (HF.out.bx rfl rfl)) HF.out.below.size (by have h1 := HKC.out.1; have h2 := HKC.out.2; rw [List.length_take]; omega) ?_
       intro u2 V2 hr2 hg2 _
       exact hK _ _ ⟨l0, l1, l2, true, l4, true, true, l7, l8, l9, false, l11, g, v1, u2, v3, rfl, rfl, ⟨⟨fun _ => ⟨rfl, rfl⟩, fun h => (by cases h), HF.out.ord11, grown_below HF.out.below hr1 hg2, fun _ h => (by cases h), fun _ h => (by cases h), fun _ _ => hr2, fun h => (by cases h)⟩⟩⟩
      ·
       obtain rfl : l7 = false := (AnyOrder.mem_ready hi).2.1
       clear hi
       refine AnyOrder.wpOp_go rfl (by rfl) ?_
       go_wp2_with fail
       exact ⟨l0, l1, l2, l3, l4, l5, l6, true, l8, l9, l10, l11, g, v1, v2, v3, rfl, rfl, HF⟩
      ·
       obtain rfl : l8 = false := (AnyOrder.mem_ready hi).2.1
       clear hi
       refine AnyOrder.wpOp_go rfl (by rfl) ?_
       go_wp2_with fail
       exact ⟨l0, l1, l2, l3, l4, l5, l6, l7, true, l9, l10, l11, g, v1, v2, v3, rfl, rfl, HF⟩
      ·
       obtain rfl : l9 = false := (AnyOrder.mem_ready hi).2.1
       obtain rfl : l7 = true := AnyOrder.dep (q := 0) hi rfl rfl rfl
       obtain rfl : l8 = true := AnyOrder.dep (q := 1) hi rfl rfl rfl
       clear hi
       simp only [sel_true, selv_true] at hK ⊢
       refine AnyOrder.wpOp_go rfl (by rfl) ?_
       refine op_slice 22 (.tmp 85) (some (.tmp 86)) none rfl rfl rfl rfl (HCF.out V) ?_
       exact hK _ _ ⟨l0, l1, l2, l3, l4, l5, l6, true, true, true, l10, l11, g, v1, v2, v3, rfl, rfl, HF⟩
      ·
       obtain rfl : l10 = false := (AnyOrder.mem_ready hi).2.1
       obtain rfl : l6 = true := AnyOrder.dep (q := 0) hi rfl rfl rfl
       obtain rfl : l9 = true := AnyOrder.dep (q := 1) hi rfl rfl rfl
       clear hi
       simp only [sel_true, selv_true] at hK ⊢
       obtain rfl : l11 = false := by cases l11 with | false => rfl | true => cases HF.out.ord11 rfl
       have hr2 := HF.out.r2 rfl rfl
       refine AnyOrder.wpOp_go rfl (by rfl) ?_
       refine op_append_node W9.drew.heap.size rfl (.tmp 84) (.tmp 87) rfl v2 (O.take k ++ [x]) (O.drop k) Ac m3 q3 rfl rfl hr2 (Kd.C_below HCD.out (below_more (below_drew1 (Below.refl _ W9)) HF.out.below)) HF.out.below.size (by have h1 := HKC.out.1; have h2 := HKC.out.2; have h3 := Hm3.out; rw [List.length_append, List.length_take, List.length_singleton]; omega) ?_
       intro u3 V3 hr3 hg3 _
       exact hK _ _ ⟨l0, l1, l2, l3, l4, l5, true, l7, l8, true, true, false, g, v1, v2, u3, rfl, rfl, ⟨⟨HF.out.ord6, fun _ => rfl, fun h => (by cases h), grown_below HF.out.below hr2 hg3, fun _ h => (by cases h), fun _ h => (by cases h), fun _ h => (by cases h), fun _ => hr3⟩⟩⟩
      ·
       obtain rfl : l11 = false := (AnyOrder.mem_ready hi).2.1
       obtain rfl : l10 = true := AnyOrder.dep (q := 0) hi rfl rfl rfl
       obtain rfl : l0 = true := AnyOrder.dep (q := 2) hi rfl rfl rfl
       obtain rfl : l1 = true := AnyOrder.dep (q := 3) hi rfl rfl rfl
       obtain rfl : l2 = true := AnyOrder.dep (q := 4) hi rfl rfl rfl
       obtain rfl : l3 = true := AnyOrder.dep (q := 5) hi rfl rfl rfl
       obtain rfl : l4 = true := AnyOrder.dep (q := 6) hi rfl rfl rfl
       obtain rfl : l5 = true := AnyOrder.dep (q := 7) hi rfl rfl rfl
       obtain rfl : l6 = true := AnyOrder.dep (q := 8) hi rfl rfl rfl
       obtain rfl : l7 = true := AnyOrder.dep (q := 9) hi rfl rfl rfl
       obtain rfl : l8 = true := AnyOrder.dep (q := 10) hi rfl rfl rfl
       obtain rfl : l9 = true := AnyOrder.dep (q := 11) hi rfl rfl rfl
       clear hi
       simp only [sel_true, selv_true] at hK ⊢
       refine AnyOrder.wpOp_go rfl (by rfl) ?_
       go_wp2_with fail
       exact ⟨true, true, true, true, true, true, true, true, true, true, true, true, g, v1, v2, v3, rfl, rfl, ⟨⟨HF.out.ord6, HF.out.ord10, fun _ => rfl, HF.out.below, HF.out.r1, HF.out.bx, HF.out.r2, HF.out.r3⟩⟩⟩
     case last =>
      rintro L ac V ⟨l0, l1, l2, l3, l4, l5, l6, l7, l8, l9, l10, l11, g, v1, v2, v3, rfl, rfl, HF⟩ hr
      have hall := AnyOrder.all_listed rfl (by kernel_rfl) hr
      clear hr
      obtain rfl : l0 = true := hall 0 (by decide)
      obtain rfl : l1 = true := hall 1 (by decide)
      obtain rfl : l2 = true := hall 2 (by decide)
      obtain rfl : l3 = true := hall 3 (by decide)
      obtain rfl : l4 = true := hall 4 (by decide)
      obtain rfl : l5 = true := hall 5 (by decide)
      obtain rfl : l6 = true := hall 6 (by decide)
      obtain rfl : l7 = true := hall 7 (by decide)
      obtain rfl : l8 = true := hall 8 (by decide)
      obtain rfl : l9 = true := hall 9 (by decide)
      obtain rfl : l10 = true := hall 10 (by decide)
      obtain rfl : l11 = true := hall 11 (by decide)
      clear hall
      simp only [sel_true, selv_true]
      have hr3 := HF.out.r3 rfl
      have HBV := Aside0.mk (below_more (below_drew1 (Below.refl _ W9)) HF.out.below)
      obtain ⟨A3, c3, rfl⟩ := RN.slice hr3
      obtain ⟨n3, Hn3⟩ : ∃ n3, Aside0 ((O.take k ++ [x] ++ O.drop k).length = n3) := ⟨_, ⟨rfl⟩⟩
      have hcall := redpencillaw11_ordered.calls 1000 Ap cp (putN x ll) A3 c3 (O.take k ++ [x] ++ O.drop k) 0 true V (by rw [Hn5.out]; exact Kd.C_below HP.out.2 HBV.out) (by rw [Hn5.out]; exact HP.out.1) (RN.C hr3).2.2 (RN.C hr3).2.1 HORD.out
      rw [Hn5.out, Hn3.out] at hcall
      have HCALL := Aside0.mk hcall
      rw [Hn3.out]
      have HB := Aside0.mk (below_more HB9.out HBV.out)
      clear hcall hr3 HF
      go_wp2_with fail
      refine HCALL.out.mono ?_
      rintro e W10 ⟨rfl, hb⟩
      have HB := Aside0.mk (below_more HB.out hb)
      clear hb HCALL
      go_wp2_with fail
      refine (known_walk _).mono ?_
      rintro e W11 ⟨rfl, hd⟩
      go_wp2
      go_ret
      exact ⟨rfl, below_more HB.out hd⟩
end Go.Proofs.YtjlpaagnajmogaaGreat.PWalk
end
section
namespace Go.Proofs.YtjlpaagnajmogaaGreat.walkGrows
open Go.ChangeShapes Go.WideShapes Go.ChangeAt Go.RowKit
open Go.ChangeMaps (open_string shut_string)
open Go.Proofs.YtjlpaagnajmogaaGreatW.PrintWords
set_option linter.unusedVariables false
theorem six_of {α : Type} {cs : List α} (h : cs.length = 6) : ∃ c0 c1 c2 c3 c4 c5, cs = [c0, c1, c2, c3, c4, c5] := by
 match cs, h with
 | [a, b, c, d, e, f], _ => exact ⟨a, b, c, d, e, f, rfl⟩
theorem open_node {H : Type} {enc : TypeId × Value → H} {W : World} {base : Nat} {sp : Nat → Bool} {held : Bool} {fuel : Nat} {cs : List Value} {x : DataW H × List MemPlace} (h : DataW.trod enc Tryz.prog W base sp held fuel 35 cs = some x) :
  ∃ n : PWalk.Node, cs = PWalk.nodeCells n ∧ PWalk.runeIn n.f3 := by
 have e37 : Tryz.prog.cellsOf 35 = 6 := by kernel_rfl
 have e35 : Tryz.prog.cellsOf 24 = 2 := by kernel_rfl
 have e3 : Tryz.prog.cellsOf 3 = 1 := by kernel_rfl
 have e21 : Tryz.prog.cellsOf 21 = 1 := by kernel_rfl
 obtain ⟨y0, y1, y2, y3, n, rfl, hl, h0, h1, h2, h3⟩ := Go.Joins.trod_struct4 Tryz.underlying35 h
 rw [e37] at hl
 obtain ⟨c0, c1, c2, c3, c4, c5, rfl⟩ := six_of hl
 simp only [e35, e3, e21, List.drop_zero, List.drop_succ_cons, List.take_succ_cons, List.take_zero] at h0 h1 h2 h3
 obtain ⟨_, _, _, _, _, g0, g1⟩ := trod_struct2 Tryz.underlying24 h0
 obtain ⟨_, _, _, _, _, g2, g3⟩ := trod_struct2 Tryz.underlying24 h1
 simp only [e3, List.drop_zero, List.drop_succ_cons, List.take_succ_cons, List.take_zero] at g0 g1 g2 g3
 obtain ⟨k0, i0, _, _⟩ := DataW.trod_int Tryz.underlying3 g0
 obtain ⟨k1, i1, _, _⟩ := DataW.trod_int Tryz.underlying3 g1
 obtain ⟨k2, i2, _, _⟩ := DataW.trod_int Tryz.underlying3 g2
 obtain ⟨k3, i3, _, _⟩ := DataW.trod_int Tryz.underlying3 g3
 obtain ⟨k4, i4, _, _⟩ := DataW.trod_int Tryz.underlying3 h2
 obtain ⟨k5, i5, _, hw⟩ := DataW.trod_int Tryz.underlying21 h3
 simp only [List.cons.injEq, and_true] at i0 i1 i2 i3 i4 i5
 subst i0 i1 i2 i3 i4 i5
 refine ⟨⟨⟨k0, k1⟩, ⟨k2, k3⟩, k4, k5⟩, rfl, ?_⟩
 have hw2 : -2147483648 ≤ k5 ∧ k5 ≤ 2147483647 := by simpa [Lit.wf, IntKind.min, IntKind.max, IntKind.signed, IntKind.bits] using hw
 exact ⟨by show _ ≤ k5; omega, by show k5 ≤ _; omega⟩
/-- A []api.Node that came in, nil or not. -/
theorem open_nodes {H : Type} {enc : TypeId × Value → H} {W : World} {A : Option Addr} {len cap : Nat} {x : DataW H × List MemPlace} {fuel : Nat} (h : DataW.trod enc Tryz.prog W 0 (fun _ => true) true fuel 22 [.slice A len cap] = some x) :
  ∃ xs : List PWalk.Node, xs.length = len ∧ Kd.C PWalk.k35 W A len xs ∧ len ≤ cap ∧ ∀ n ∈ xs, PWalk.runeIn n.f3 := by
 have e37 : Tryz.prog.cellsOf 35 = 6 := by kernel_rfl
 rcases Go.Deep.open_slice Tryz.underlying22 h with ⟨hcs, _⟩ | ⟨a, len', cap', m, n, D, Pl, hcs, _, hl, hm, hmm, _, hx⟩
 ·
  simp at hcs
  obtain ⟨rfl, rfl, rfl⟩ := hcs
  exact ⟨[], rfl, ⟨rfl, by omega, fun hp => absurd hp (by omega)⟩, Nat.le_refl _, fun n hn => by cases hn⟩
 ·
  simp at hcs
  obtain ⟨rfl, rfl, rfl⟩ := hcs
  simp only [if_true] at hmm
  subst hmm
  rw [e37] at hx
  haveI : Inhabited PWalk.Node := ⟨⟨⟨0, 0⟩, ⟨0, 0⟩, 0, 0⟩⟩
  obtain ⟨N, hN⟩ := Go.Deep.choose_lt (α := PWalk.Node) (n := len) (p := fun i nd => PWalk.runeIn nd.f3 ∧ ∀ j u, (PWalk.nodeCells nd)[j]? = some u → W.cell? (a.add (i * 6 + j)) = some u) (fun i hi => by
   obtain ⟨cs', h1, h2⟩ := hx i (by omega)
   obtain ⟨nd, rfl, hr⟩ := open_node h2
   refine ⟨nd, hr, fun j u hu => ?_⟩
   obtain ⟨_, hlen, hc⟩ := World.cells?_some h1
   have hj : j < 6 := (List.getElem?_eq_some_iff.1 hu).1
   rw [← Addr.add_add a (i * 6) j]
   rw [← hu]
   exact hc j (by simpa using hj))
  refine ⟨(List.range len).map N, by simp, ⟨by simp, Nat.le_trans hl hm, fun hp => ⟨a, rfl, fun i nd hi => ?_⟩⟩, hl, fun nd hnd => ?_⟩
  ·
   have hil : i < len := by simpa using (List.getElem?_eq_some_iff.1 hi).1
   have hnd : nd = N i := by simpa [hil] using hi.symm
   subst hnd
   refine ⟨PWalk.nodeCells (N i), rfl, PWalk.k35.K_of_M (PWalk.k35_mkM W 0 (fun _ => True) (N i)), fun j u hu => (hN i hil).2 j u hu⟩
  ·
   obtain ⟨i, hi, rfl⟩ := List.mem_map.1 hnd
   exact (hN i (by simpa using hi)).1
set_option maxRecDepth 100000 in
/-- An api.Dot that came in by value: it is read the same in every world. -/
theorem open_dot {H : Type} {enc : TypeId × Value → H} {W : World} {r : Reach} {b0 base : Nat} {sp : Nat → Bool} {held : Bool} {v : Value} {d : DataW H} {p : List MemPlace} (hv : Value.okWide Tryz.prog W r b0 24 v) (h : DataW.Trod enc Tryz.prog W base sp held 24 v d p) :
  ∃ a : PWalk.Dot, v = .agg #[.int .i64 a.f0, .int .i64 a.f1] ∧ ∀ (W' : World) (base' : Nat) (sp' : Nat → Bool) (held' : Bool), DataW.Trod enc Tryz.prog W' base' sp' held' 24 v d p := by
 obtain ⟨v0, v1, y0, y1, n, rfl, rfl, rfl, h0, h1⟩ := Go.Joins.open_agg2 Tryz.underlying24 (by kernel_rfl) (by kernel_rfl) hv h
 obtain ⟨k0, i0, e0, w0⟩ := DataW.trod_int Tryz.underlying3 h0
 obtain ⟨k1, i1, e1, w1⟩ := DataW.trod_int Tryz.underlying3 h1
 simp only [List.cons.injEq, and_true] at i0 i1
 subst i0 i1 e0 e1
 refine ⟨⟨k0, k1⟩, rfl, fun W' base' sp' held' => ?_⟩
 exact Go.Joins.shut_agg2 Tryz.underlying24 (by kernel_rfl) (by kernel_rfl) (Go.Joins.field_of_Trod (shut_int Tryz.underlying3 w0) rfl) (Go.Joins.field_of_Trod (shut_int Tryz.underlying3 w1) rfl)
theorem own : ownKnob Tryz.prog.godebug = none := by kernel_rfl
theorem laidOut : laidOutB Tryz.prog = true := by kernel_rfl
set_option maxRecDepth 100000 in
set_option maxHeartbeats 2000000 in
theorem lifted (os : Os) (started : os.Started) (H : Type) (enc : TypeId × Value → H) :
  ReturnsInHanded {} Tryz.checked os 12 .any (Rows.walkGrowsSpec.pre6 enc Tryz.prog Tryz.f12 Rows.walkGrowsRow.domain false) (Rows.walkGrowsSpec.post enc Tryz.prog Tryz.f12 false true false false) := by
 refine returnsInHanded_of_change_sized (C := Tryz.checked) own started (by kernel_rfl) Tryz.func12
  (ChangeSpec.witness6 (enc := enc) (C := Tryz.checked) false ⟨#[], #[.slice none 0 0, .int .u8 0, .agg #[.int .i64 0, .int .i64 0]], []⟩ 8 (by kernel_rfl) (by kernel_rfl) (by kernel_rfl) (by kernel_rfl)) ?_
 intro W base args ds gs before hval0 hW hcnd hsz0 _
 have hval : ∀ (j : Nat) t v, Tryz.f12.params[j]? = some t → args[j]? = some v → Value.okWide Tryz.prog W .any base t v := hval0
 have hW' := hW
 obtain ⟨p, q, hA0, hV, rfl, hfz, hnd⟩ := hW
 have hA : DataW.TrodAll enc Tryz.prog W 0 (fun _ => true) true Tryz.f12.params.toList args.toList ds p := hA0
 rw [Tryz.params12] at hA hval
 obtain ⟨v0, vs0, d0, ds0, p0, q0, hargs, rfl, rfl, h0, r0⟩ := trodAll_cons hA
 obtain ⟨v1, vs1, d1, ds1, p1, q1, rfl, rfl, rfl, h1, r1⟩ := trodAll_cons r0
 obtain ⟨v2, vs2, d2, ds2, p2, q2, rfl, rfl, rfl, h2, r2⟩ := trodAll_cons r1
 obtain ⟨rfl, rfl, rfl⟩ := trodAll_nil r2
 obtain rfl : args = #[v0, v1, v2] := by cases args; simp_all
 obtain ⟨rfl, rfl⟩ := trodVars_none hV
 obtain ⟨A0, len0, cap0, rfl⟩ := okWide_slice Tryz.underlying22 (hval 0 22 v0 rfl rfl)
 have k0 := h0
 have lt0 : ∀ x ∈ p0, x.block < W.heap.size := by obtain ⟨m, hm⟩ := k0; exact DataW.trod_lt m _ _ _ hm
 obtain ⟨f0, hf0⟩ := h0
 obtain ⟨xs0, rfl, hr0, hc0, hi0⟩ := open_nodes hf0
 obtain ⟨a1, rfl, rfl, rfl, w1⟩ := open_int Tryz.underlying5 (hval 1 5 v1 rfl rfl) h1
 obtain ⟨a2, rfl, w2⟩ := open_dot (hval 2 24 v2 rfl rfl) h2
 clear hA0 hval0 hsz0
 refine (PWalk.WalkGrows.walk A0 cap0 xs0 W hr0 hc0 hi0 a1 w1 a2).mono fun e W' ⟨he, bel⟩ => ?_
 subst he
 exact ⟨_, rfl, _, _, _, [], _, [], hW', trodAll_mk1 (shut_bool Tryz.underlying4 _), (trodAll_cons_mk (Below.trod laidOut (by kernel_rfl) (of_decide_eq_true (by kernel_rfl)) k0 bel lt0) (trodAll_cons_mk (shut_int Tryz.underlying5 w1) (trodAll_cons_mk (w2 _ _ _ _) trodAll_mk0))), rfl, bel.frame _, fun h => by cases h⟩
theorem over : Rows.walkGrowsRow.holds Tryz.pinned (OpenSpec.ofChange Rows.walkGrowsSpec) :=
 OpenClaim.holds_of_wide 12 Tryz.f12 rfl rfl rfl rfl rfl rfl rfl ⟨rfl, rfl, rfl, rfl, rfl⟩ rfl rfl rfl rfl rfl (by kernel_rfl) Tryz.func12 (by kernel_rfl)
  (of_decide_eq_true (by kernel_rfl)) (by unfold Func.isWrapper; first | (rw [if_pos (by decide +kernel)]; kernel_rfl) | (rw [if_neg (by decide +kernel)]; exact ⟨rfl, rfl⟩))
  (fun os started H enc _ => lifted os started H enc)
theorem proved : Rows.WalkGrowsSaid := over
#print axioms proved
end Go.Proofs.YtjlpaagnajmogaaGreat.walkGrows
end
