/-
  The law WalkChildren: the walk and the row. Part 11 of 11.
-/
import Derived.Test.YtjlpaagnajmogaaGreatCJ
import Derived.Test.YtjlpaagnajmogaaGreatRows
import Derived.WalkKit
import Derived.ProofKit
import Derived.OpenShut
import Derived.ShutString
import Derived.ChangeOld
import Derived.Below
import Derived.SizedLaws
import Derived.Deep.DeepHandedRow
import Derived.Deep.Slices
import Derived.Lib.SmallJoins
section
namespace Go.Proofs.YtjlpaagnajmogaaGreat.PWalk
open Go.RowKit Go.Proofs.YtjlpaagnajmogaaGreatW.PrintWords Go.Proofs.YtjlpaagnajmogaaGreatW.PrintLast Go.Proofs.YtjlpaagnajmogaaGreatW.PrintMore
set_option linter.unusedVariables false
set_option linter.unusedSimpArgs false
open Go.Shelf
attribute [local go_sem] Oper.semAt_some
def redpencilref11_Children.f (l0 : List Node) (a1_0 a1_1 : Int) : Option (List Node) := if l0.length ≤ 400000 then some (kids l0 ⟨a1_0, a1_1⟩) else none
/-- What has come up in the triple append. -/
structure RcF (W0 : World) (out : List Node) (x : Node) (k : Nat) (l0 l3 l8 l9 l10 l13 l14 : Bool) (g : Nat) (v1 v2 v3 : Value) (V : World) : Prop where
 ord9 : l9 = true → l3 = true ∧ l8 = true
 ord13 : l13 = true → l9 = true
 ord14 : l14 = true → l13 = true ∧ l0 = true ∧ l10 = true
 below : Below W0.heap.size W0 V
 r1 : l3 = true → l9 = false → RN V W0.heap.size v1 (out.take k)
 bx : l8 = true → l9 = false → V.heap[g]? = some (boxN x)
 r2 : l9 = true → l13 = false → RN V W0.heap.size v2 (out.take k ++ [x])
 r3 : l13 = true → RN V W0.heap.size v3 (insB x out)
theorem RcF.no {W0 : World} {out : List Node} {x : Node} {k : Nat} {l0 l3 l8 l9 l10 l13 l14 : Bool} {g : Nat} {v1 v2 v3 : Value} {V : World} (h : RcF W0 out x k l0 l3 l8 l9 l10 l13 l14 g v1 v2 v3 V) (hl : l3 = false ∨ l8 = false) : l9 = false ∧ l13 = false ∧ l14 = false := by
 have h9 : l9 = false := by
  cases l9 with
  | false => rfl
  | true => obtain ⟨rfl, rfl⟩ := h.ord9 rfl; rcases hl with e | e <;> cases e
 have h13 : l13 = false := by
  cases l13 with
  | false => rfl
  | true => have := h.ord13 rfl; rw [h9] at this; cases this
 refine ⟨h9, h13, ?_⟩
 cases l14 with
 | false => rfl
 | true => have := (h.ord14 rfl).1; rw [h13] at this; cases this
def rc7Inv (W0 : World) (ad : Addr) (ado : Addr) (n c0 i' k no co : Nat) (x y : Node) (b1 b2 : Bool) (z1 z2 z3 z4 z8 z9 z10 z11 z12 z13 z14 z15 z16 z17 z18 z19 z20 z21 z22 z23 z24 z25 z26 z27 z28 z29 z30 z31 z32 z33 z34 z35 z36 z37 z38 z39 z40 z41 z42 z43 z44 z45 z46 z47 z48 z49 z50 z51 z52 : Value) (L : Array Bool) (ac : Act) (V : World) : Prop := ∃ (l0 l1 l2 l3 l4 l5 l6 l7 l8 l9 l10 l11 l12 l13 l14 : Bool), L = #[l0, l1, l2, l3, l4, l5, l6, l7, l8, l9, l10, l11, l12, l13, l14] ∧ ac = { tmps := #[.slice (some ad) n c0, z1, z2, z3, z4, .slice (some ado) no co, .int .i64 (i' : Int), .int .i64 (k : Int), z8, z9, z10, z11, z12, z13, z14, z15, z16, z17, z18, z19, z20, selv l0 (.int .i64 (k : Int)) (z21), selv l1 (.slice (some ado) no co) (z22), selv l2 (.int .i64 (no : Int)) (z23), selv l3 (.bool b1) (z24), selv l4 (.bool b1) (z25), selv l5 (.slice (some ado) no co) (z26), selv l6 (.int .i64 (k : Int)) (z27), selv l7 (.pointer (some (ado.add (k * 6)))) (z28), selv l8 (vNode y) (z29), selv l9 (.slice (some ad) n c0) (z30), selv l10 (.int .i64 (i' : Int)) (z31), selv l11 (.pointer (some (ad.add (i' * 6)))) (z32), selv l12 (vNode x) (z33), selv l13 (.bool b2) (z34), selv l14 (.bool b2) (z35), z36, z37, z38, z39, z40, z41, z42, z43, z44, z45, z46, z47, z48, z49, z50, z51, z52], defers := [] } ∧ Aside0 (Below W0.heap.size W0 V)
def rc7eInv (W0 : World) (ad : Addr) (Ao : Option Addr) (n c0 i' k no co : Nat) (x y : Node) (b1 b2 : Bool) (z1 z2 z3 z4 z8 z9 z10 z11 z12 z13 z14 z15 z16 z17 z18 z19 z20 z21 z22 z23 z24 z25 z26 z27 z28 z29 z30 z31 z32 z33 z34 z35 z36 z37 z38 z39 z40 z41 z42 z43 z44 z45 z46 z47 z48 z49 z50 z51 z52 : Value) (L : Array Bool) (ac : Act) (V : World) : Prop := ∃ (l0 l1 l2 l3 l4 l5 l6 l7 l8 l9 l10 l11 l12 l13 l14 : Bool), L = #[l0, l1, l2, l3, l4, l5, l6, l7, l8, l9, l10, l11, l12, l13, l14] ∧ ac = { tmps := #[.slice (some ad) n c0, z1, z2, z3, z4, .slice Ao no co, .int .i64 (i' : Int), .int .i64 (k : Int), z8, z9, z10, z11, z12, z13, z14, z15, z16, z17, z18, z19, z20, selv l0 (.int .i64 (k : Int)) (z21), selv l1 (.slice Ao no co) (z22), selv l2 (.int .i64 (no : Int)) (z23), selv l3 (.bool b1) (z24), selv l4 (.bool b1) (z25), selv l5 (undef) (z26), selv l6 (undef) (z27), selv l7 (undef) (z28), selv l8 (undef) (z29), selv l9 (undef) (z30), selv l10 (undef) (z31), selv l11 (undef) (z32), selv l12 (undef) (z33), selv l13 (undef) (z34), selv l14 (.bool b2) (z35), z36, z37, z38, z39, z40, z41, z42, z43, z44, z45, z46, z47, z48, z49, z50, z51, z52], defers := [] } ∧ Aside0 (Below W0.heap.size W0 V)
def rc9Inv (W0 : World) (ad : Addr) (Ao Ac : Option Addr) (n c0 i' k no co m3 q3 : Nat) (x : Node) (out : List Node) (z1 z2 z3 z4 z8 z9 z10 z11 z12 z13 z14 z15 z16 z17 z18 z19 z20 z21 z22 z23 z24 z25 z26 z27 z28 z29 z30 z31 z32 z33 z34 z35 z36 z37 z38 z39 z40 z41 z42 z43 z44 z45 z46 z47 z48 z49 z50 z51 z52 : Value) (L : Array Bool) (ac : Act) (V : World) : Prop := ∃ (l0 l1 l2 l3 l4 l5 l6 l7 l8 l9 l10 l11 l12 l13 l14 : Bool) (g : Nat) (v1 : Value) (v2 : Value) (v3 : Value), L = #[l0, l1, l2, l3, l4, l5, l6, l7, l8, l9, l10, l11, l12, l13, l14] ∧ ac = { tmps := #[.slice (some ad) n c0, z1, z2, z3, z4, selv l14 (v3) (.slice Ao no co), .int .i64 (i' : Int), .int .i64 (k : Int), z8, z9, z10, z11, z12, z13, z14, z15, z16, z17, z18, z19, z20, z21, z22, z23, z24, z25, z26, z27, z28, z29, z30, z31, z32, z33, z34, z35, z36, z37, selv l0 (.slice Ao no co) (z38), selv l1 (.int .i64 (k : Int)) (z39), selv l2 (.slice Ao k co) (z40), selv l3 (v1) (z41), selv l4 (.slice (some ad) n c0) (z42), selv l5 (.int .i64 (i' : Int)) (z43), selv l6 (.pointer (some (ad.add (i' * 6)))) (z44), selv l7 (vNode x) (z45), selv l8 (.slice (some ⟨g, 0, none⟩) 1 1) (z46), selv l9 (v2) (z47), selv l10 (.slice Ao no co) (z48), selv l11 (.int .i64 (k : Int)) (z49), selv l12 (.slice Ac m3 q3) (z50), selv l13 (v3) (z51), z52], defers := [] } ∧ Aside0 (RcF W0 out x k l0 l3 l8 l9 l10 l13 l14 g v1 v2 v3 V)
attribute [local go_sem high] eqA35 eqA24
set_option maxHeartbeats 4000000 in
set_option maxRecDepth 100000 in
theorem redpencilref11_Children.calls (A0 : Option Addr) (c0 : Nat) (l0 : List Node) (a1_0 a1_1 : Int) (r : List Node) (w : World) (hr0 : Kd.C k35 w A0 l0.length l0) (hc0 : l0.length ≤ c0) (h : redpencilref11_Children.f l0 a1_0 a1_1 = some r) :
  Calls Tryz.prog 19 #[.slice A0 l0.length c0, .agg #[.int .i64 a1_0, .int .i64 a1_1]] w fun e w' => ∃ v0_ : Value, e = .returned v0_ ∧ Kd.R k35 35 w' w.heap.size (fun _ => True) v0_ r ∧ Below w.heap.size w w' := by
 obtain ⟨d, hd⟩ : ∃ d : Dot, d = ⟨a1_0, a1_1⟩ := ⟨_, rfl⟩
 unfold redpencilref11_Children.f at h
 rw [← hd] at h
 rw [show a1_0 = d.f0 by rw [hd], show a1_1 = d.f1 by rw [hd]]
 clear hd
 by_cases hl : l0.length ≤ 400000
 rotate_left
 ·
  rw [if_neg hl] at h; cases h
 rw [if_pos hl] at h
 obtain rfl := Option.some.inj h
 have HR := Aside0.mk hr0
 have HL := Aside0.mk hl
 have HB0 := Aside0.mk (Gr.alloc w (dotC d)).below
 have HK0 := Aside0.mk (blk_new w (dotC d))
 clear h hr0 hc0 hl
 obtain ⟨n, Hn⟩ : ∃ n, Aside0 (l0.length = n) := ⟨_, ⟨rfl⟩⟩
 rw [Hn.out]
 have hn4 : n ≤ 400000 := by rw [← Hn.out]; exact HL.out
 go_enter Tryz.func19, Tryz.ntmps19
 go_wp2
 generalize w.alloc (dotC d) = W1 at *
 obtain ⟨B, HBe⟩ : ∃ B, Aside0 (w.heap.size = B) := ⟨_, ⟨rfl⟩⟩
 rw [HBe.out] at HK0
 rw [show (Value.pointer (some { block := w.heap.size, off := 0 })) = .pointer (some ⟨B, 0, none⟩) by rw [HBe.out]]
 go_loopw [5, 6] (fun o i wr => ∃ (i' : Nat) (Ao : Option Addr) (no co : Nat), i' ≤ n ∧ i = .int .i64 i' ∧ o = .slice Ao no co ∧ Aside0 (RN wr w.heap.size (.slice Ao no co) (kids (l0.take i') d)) ∧ Aside0 (wr.heap[B]? = some (dotC d)) ∧ Aside0 (Below w.heap.size w wr)) (fun _ i _ => n - (intOf i).toNat)
 case atStart => exact ⟨0, none, 0, 0, Nat.zero_le _, rfl, rfl, ⟨Kd.R_nil _ _ _ _ _⟩, HK0, HB0⟩
 case round =>
  obtain ⟨i', Ao, no, co, hi', rfl, rfl, HO, HK, HB⟩ := hrel
  by_cases hlt : i' < n
  ·
   have hltb : decide ((i' : Int) < (n : Int)) = true := decide_eq_true (by omega)
   obtain ⟨x, Hx⟩ : ∃ x, Aside0 (l0[i']? = some x) := ⟨_, ⟨List.getElem?_eq_getElem (by rw [Hn.out]; exact hlt)⟩⟩
   obtain ⟨ad, e, g0, g1, g2, g3, g4, g5⟩ := node_at HR.out HB.out i' x Hx.out
   subst e
   have k0 : wr.cell? ⟨B, 0, none⟩ = _ := (blk_cell HK.out 0).trans rfl
   have k1 : wr.cell? ⟨B, 1, none⟩ = _ := (blk_cell HK.out 1).trans rfl
   have HST : Aside0 (kids (l0.take (i' + 1)) d = if x.f1 = d then insB x (kids (l0.take i') d) else kids (l0.take i') d) := ⟨kids_take_succ Hx.out⟩
   have HOC := Aside0.mk (RN.C HO.out)
   have HNO : Aside0 (no ≤ 400000) := ⟨by have h1 := HOC.out.1; have h2 := kids_le (l0.take i') d; rw [List.length_take] at h2; omega⟩
   by_cases hxd : x.f1 = d
   ·
    have hne : (x.f1.f0 == d.f0 && (x.f1.f1 == d.f1)) = true := by rw [hxd]; simp
    have HXD := Aside0.mk hxd
    go_wp2
    go_quiet (fail)
    have hdq := (Gr.drawn (w := wr) ⟨nq, rfl⟩).below
    go_wp2
    clear hxd hne k0 k1 g0 g1 g2 g3 g4 g5
    have HHB := Aside0.mk (below_more HB.out hdq)
    have HHO := Aside0.mk (RN.below' HO.out hdq)
    have HHK := Aside0.mk (blk_keep HK.out hdq)
    have HHd := Aside0.mk hdq
    rw [if_pos HXD.out] at HST
    have HXI : Aside0 (i' < n ∧ n ≤ 400000) := ⟨hlt, hn4⟩
    clear hdq
    generalize wr.drewN nq = W2 at *
    go_loopw [7] (fun j wr => ∃ k : Nat, k ≤ no ∧ j = .int .i64 k ∧ Aside0 (∀ q y, q < k → (kids (l0.take i') d)[q]? = some y → nodeLt y x = true) ∧ Aside0 (Below W2.heap.size W2 wr)) (fun j _ => no - (intOf j).toNat)
    case atStart => exact ⟨0, Nat.zero_le _, rfl, ⟨fun q y hq => absurd hq (Nat.not_lt_zero _)⟩, ⟨Below.refl _ _⟩⟩
    case round =>
     obtain ⟨k, hk, rfl, HPRE, HB2⟩ := hrel
     by_cases hkl : k < no
     ·
      obtain ⟨y, Hy⟩ : ∃ y, Aside0 ((kids (l0.take i') d)[k]? = some y) := ⟨_, ⟨List.getElem?_eq_getElem (by rw [HOC.out.1]; exact hkl)⟩⟩
      obtain ⟨ado, e, y0, y1, y2, y3, y4, y5⟩ := node_at (RN.C HHO.out).2.2 HB2.out k y Hy.out
      subst e
      obtain ⟨ad', e, g0, g1, g2, g3, g4, g5⟩ := node_at HR.out (below_more HHB.out HB2.out) i' x Hx.out
      cases e
      have HY := Aside0.mk (And.intro y0 (And.intro y1 (And.intro y2 (And.intro y3 (And.intro y4 y5)))))
      have HG := Aside0.mk (And.intro g0 (And.intro g1 (And.intro g2 (And.intro g3 (And.intro g4 g5)))))
      have HKN : Aside0 (k < no ∧ no ≤ 400000) := ⟨hkl, HNO.out⟩
      clear y0 y1 y2 y3 y4 y5 g0 g1 g2 g3 g4 g5
      obtain ⟨b, Hb⟩ : ∃ b, Aside0 (nodeLt y x = b) := ⟨_, ⟨rfl⟩⟩
      cases b with
      | true =>
       go_wp2
       refine AnyOrder.wp_region (by kernel_rfl) (rc7Inv wr.drew ad ado n c0 i' k no co x y true true _ _ _ _ _ _ _ _ _ _ _ _ _ _ _ _ _ _ _ _ _ _ _ _ _ _ _ _ _ _ _ _ _ _ _ _ _ _ _ _ _ _ _ _ _ _ _ _ _) ⟨false, false, false, false, false, false, false, false, false, false, false, false, false, false, false, rfl, rfl, ⟨Below.refl _ _⟩⟩ ?step ?last
       case step =>
        rintro L ac V i ⟨l0, l1, l2, l3, l4, l5, l6, l7, l8, l9, l10, l11, l12, l13, l14, rfl, rfl, HF⟩ hi K hK
        have h1 : i = 0 ∨ i = 1 ∨ i = 2 ∨ i = 3 ∨ i = 4 ∨ i = 5 ∨ i = 6 ∨ i = 7 ∨ i = 8 ∨ i = 9 ∨ i = 10 ∨ i = 11 ∨ i = 12 ∨ i = 13 ∨ i = 14 := by
         have h1 := (AnyOrder.mem_ready hi).1
         clear hi hK
         change i < 15 at h1
         omega
        rcases h1 with rfl | rfl | rfl | rfl | rfl | rfl | rfl | rfl | rfl | rfl | rfl | rfl | rfl | rfl | rfl
        ·
         obtain rfl : l0 = false := (AnyOrder.mem_ready hi).2.1
         clear hi
         refine AnyOrder.wpOp_go rfl (by rfl) ?_
         go_wp2_with fail
         exact ⟨true, l1, l2, l3, l4, l5, l6, l7, l8, l9, l10, l11, l12, l13, l14, rfl, rfl, HF⟩
        ·
         obtain rfl : l1 = false := (AnyOrder.mem_ready hi).2.1
         clear hi
         refine AnyOrder.wpOp_go rfl (by rfl) ?_
         go_wp2_with fail
         exact ⟨l0, true, l2, l3, l4, l5, l6, l7, l8, l9, l10, l11, l12, l13, l14, rfl, rfl, HF⟩
        ·
         obtain rfl : l2 = false := (AnyOrder.mem_ready hi).2.1
         obtain rfl : l1 = true := AnyOrder.dep (q := 0) hi rfl rfl rfl
         clear hi
         simp only [sel_true, selv_true] at hK ⊢
         refine AnyOrder.wpOp_go rfl (by rfl) ?_
         go_wp2_with fail
         exact ⟨l0, true, true, l3, l4, l5, l6, l7, l8, l9, l10, l11, l12, l13, l14, rfl, rfl, HF⟩
        ·
         obtain rfl : l3 = false := (AnyOrder.mem_ready hi).2.1
         obtain rfl : l0 = true := AnyOrder.dep (q := 0) hi rfl rfl rfl
         obtain rfl : l2 = true := AnyOrder.dep (q := 1) hi rfl rfl rfl
         clear hi
         simp only [sel_true, selv_true] at hK ⊢
         have hdec : decide ((k : Int) < (no : Int)) = true := decide_eq_true (by omega)
         refine AnyOrder.wpOp_go rfl (by rfl) ?_
         go_wp2_with fail
         exact ⟨true, l1, true, true, l4, l5, l6, l7, l8, l9, l10, l11, l12, l13, l14, rfl, rfl, HF⟩
        ·
         obtain rfl : l4 = false := (AnyOrder.mem_ready hi).2.1
         obtain rfl : l3 = true := AnyOrder.dep (q := 0) hi rfl rfl rfl
         clear hi
         simp only [sel_true, selv_true] at hK ⊢
         refine AnyOrder.wpOp_go rfl (by rfl) ?_
         go_wp2_with fail
         exact ⟨l0, l1, l2, true, true, l5, l6, l7, l8, l9, l10, l11, l12, l13, l14, rfl, rfl, HF⟩
        ·
         obtain rfl : l5 = false := (AnyOrder.mem_ready hi).2.1
         obtain rfl : l4 = true := AnyOrder.dep (q := 0) hi rfl rfl rfl
         clear hi
         simp only [sel_true, selv_true] at hK ⊢
         refine AnyOrder.wpOp_go rfl (by rfl) ?_
         go_wp2_with fail
         exact ⟨l0, l1, l2, l3, true, true, l6, l7, l8, l9, l10, l11, l12, l13, l14, rfl, rfl, HF⟩
        ·
         obtain rfl : l6 = false := (AnyOrder.mem_ready hi).2.1
         obtain rfl : l4 = true := AnyOrder.dep (q := 0) hi rfl rfl rfl
         clear hi
         simp only [sel_true, selv_true] at hK ⊢
         refine AnyOrder.wpOp_go rfl (by rfl) ?_
         go_wp2_with fail
         exact ⟨l0, l1, l2, l3, true, l5, true, l7, l8, l9, l10, l11, l12, l13, l14, rfl, rfl, HF⟩
        ·
         obtain rfl : l7 = false := (AnyOrder.mem_ready hi).2.1
         obtain rfl : l5 = true := AnyOrder.dep (q := 0) hi rfl rfl rfl
         obtain rfl : l6 = true := AnyOrder.dep (q := 1) hi rfl rfl rfl
         obtain rfl : l4 = true := AnyOrder.dep (q := 2) hi rfl rfl rfl
         clear hi
         simp only [sel_true, selv_true] at hK ⊢
         have hkk := HKN.out.1
         have hkl2 := HKN.out.2
         refine AnyOrder.wpOp_go rfl (by rfl) ?_
         go_wp2_with fail
         exact ⟨l0, l1, l2, l3, true, true, true, true, l8, l9, l10, l11, l12, l13, l14, rfl, rfl, HF⟩
        ·
         obtain rfl : l8 = false := (AnyOrder.mem_ready hi).2.1
         obtain rfl : l7 = true := AnyOrder.dep (q := 0) hi rfl rfl rfl
         obtain rfl : l4 = true := AnyOrder.dep (q := 1) hi rfl rfl rfl
         clear hi
         simp only [sel_true, selv_true] at hK ⊢
         obtain ⟨y0, y1, y2, y3, y4, y5⟩ := HY.out
         have y0 := pw_cell_below HF.out y0
         have y1 := pw_cell_below HF.out y1
         have y2 := pw_cell_below HF.out y2
         have y3 := pw_cell_below HF.out y3
         have y4 := pw_cell_below HF.out y4
         have y5 := pw_cell_below HF.out y5
         refine AnyOrder.wpOp_go rfl (by rfl) ?_
         go_wp2_with fail
         exact ⟨l0, l1, l2, l3, true, l5, l6, true, true, l9, l10, l11, l12, l13, l14, rfl, rfl, HF⟩
        ·
         obtain rfl : l9 = false := (AnyOrder.mem_ready hi).2.1
         obtain rfl : l4 = true := AnyOrder.dep (q := 0) hi rfl rfl rfl
         clear hi
         simp only [sel_true, selv_true] at hK ⊢
         refine AnyOrder.wpOp_go rfl (by rfl) ?_
         go_wp2_with fail
         exact ⟨l0, l1, l2, l3, true, l5, l6, l7, l8, true, l10, l11, l12, l13, l14, rfl, rfl, HF⟩
        ·
         obtain rfl : l10 = false := (AnyOrder.mem_ready hi).2.1
         obtain rfl : l4 = true := AnyOrder.dep (q := 0) hi rfl rfl rfl
         clear hi
         simp only [sel_true, selv_true] at hK ⊢
         refine AnyOrder.wpOp_go rfl (by rfl) ?_
         go_wp2_with fail
         exact ⟨l0, l1, l2, l3, true, l5, l6, l7, l8, l9, true, l11, l12, l13, l14, rfl, rfl, HF⟩
        ·
         obtain rfl : l11 = false := (AnyOrder.mem_ready hi).2.1
         obtain rfl : l9 = true := AnyOrder.dep (q := 0) hi rfl rfl rfl
         obtain rfl : l10 = true := AnyOrder.dep (q := 1) hi rfl rfl rfl
         obtain rfl : l4 = true := AnyOrder.dep (q := 2) hi rfl rfl rfl
         clear hi
         simp only [sel_true, selv_true] at hK ⊢
         have hkk := HXI.out.1
         have hkl2 := HXI.out.2
         refine AnyOrder.wpOp_go rfl (by rfl) ?_
         go_wp2_with fail
         exact ⟨l0, l1, l2, l3, true, l5, l6, l7, l8, true, true, true, l12, l13, l14, rfl, rfl, HF⟩
        ·
         obtain rfl : l12 = false := (AnyOrder.mem_ready hi).2.1
         obtain rfl : l11 = true := AnyOrder.dep (q := 0) hi rfl rfl rfl
         obtain rfl : l4 = true := AnyOrder.dep (q := 1) hi rfl rfl rfl
         clear hi
         simp only [sel_true, selv_true] at hK ⊢
         obtain ⟨g0, g1, g2, g3, g4, g5⟩ := HG.out
         have g0 := pw_cell_below HF.out g0
         have g1 := pw_cell_below HF.out g1
         have g2 := pw_cell_below HF.out g2
         have g3 := pw_cell_below HF.out g3
         have g4 := pw_cell_below HF.out g4
         have g5 := pw_cell_below HF.out g5
         refine AnyOrder.wpOp_go rfl (by rfl) ?_
         go_wp2_with fail
         exact ⟨l0, l1, l2, l3, true, l5, l6, l7, l8, l9, l10, true, true, l13, l14, rfl, rfl, HF⟩
        ·
         obtain rfl : l13 = false := (AnyOrder.mem_ready hi).2.1
         obtain rfl : l8 = true := AnyOrder.dep (q := 0) hi rfl rfl rfl
         obtain rfl : l12 = true := AnyOrder.dep (q := 1) hi rfl rfl rfl
         obtain rfl : l4 = true := AnyOrder.dep (q := 2) hi rfl rfl rfl
         clear hi
         simp only [sel_true, selv_true] at hK ⊢
         refine AnyOrder.wpOp_go rfl (by rfl) ?_
         go_wp2_with fail
         refine (redpencilref09_Before.calls _ _ _ _ _ _ _ _ _ _ _ _ true V (by rw [before_is, Hb.out])).mono ?_
         rintro e V' ⟨rfl, hb⟩
         exact hK _ _ ⟨l0, l1, l2, l3, true, l5, l6, l7, true, l9, l10, l11, true, true, l14, rfl, rfl, ⟨below_more HF.out hb⟩⟩
        ·
         obtain rfl : l14 = false := (AnyOrder.mem_ready hi).2.1
         obtain rfl : l4 = true := AnyOrder.dep (q := 0) hi rfl rfl rfl
         obtain rfl : l13 = true := AnyOrder.dep (q := 1) hi rfl rfl rfl
         clear hi
         simp only [sel_true, selv_true] at hK ⊢
         refine AnyOrder.wpOp_go rfl (by rfl) ?_
         go_wp2_with fail
         exact ⟨l0, l1, l2, l3, true, l5, l6, l7, l8, l9, l10, l11, l12, true, true, rfl, rfl, HF⟩
       case last =>
        rintro L ac V ⟨l0, l1, l2, l3, l4, l5, l6, l7, l8, l9, l10, l11, l12, l13, l14, rfl, rfl, HF⟩ hr
        have hall := AnyOrder.all_listed rfl (by kernel_rfl) hr
        clear hr
        obtain rfl : l0 = true := hall 0 (by decide)
        obtain rfl : l1 = true := hall 1 (by decide)
        obtain rfl : l2 = true := hall 2 (by decide)
        obtain rfl : l3 = true := hall 3 (by decide)
        obtain rfl : l4 = true := hall 4 (by decide)
        obtain rfl : l5 = true := hall 5 (by decide)
        obtain rfl : l6 = true := hall 6 (by decide)
        obtain rfl : l7 = true := hall 7 (by decide)
        obtain rfl : l8 = true := hall 8 (by decide)
        obtain rfl : l9 = true := hall 9 (by decide)
        obtain rfl : l10 = true := hall 10 (by decide)
        obtain rfl : l11 = true := hall 11 (by decide)
        obtain rfl : l12 = true := hall 12 (by decide)
        obtain rfl : l13 = true := hall 13 (by decide)
        obtain rfl : l14 = true := hall 14 (by decide)
        clear hall
        simp only [sel_true, selv_true]
        have HHF := Aside0.mk (below_more (below_drew1 HB2.out) HF.out)
        have hno4 := HNO.out
        go_wp2
        go_roundw
        case rel => exact ⟨k + 1, by omega, by go_num, ⟨fun q z hq hz => by rcases Nat.lt_succ_iff_lt_or_eq.1 hq with h | h; exact HPRE.out q z h hz; subst h; rw [Hy.out] at hz; cases hz; exact Hb.out⟩, HHF⟩
        case measure => simp [intOf] <;> omega
      | false =>
       have HCUT : Aside0 (insB x (kids (l0.take i') d) = (kids (l0.take i') d).take k ++ [x] ++ (kids (l0.take i') d).drop k) := ⟨by rw [insB_cut, cutN_is (k := k) (by rw [HOC.out.1]; exact hk) HPRE.out (fun z hz => by rw [Hy.out] at hz; cases hz; exact Hb.out)]; simp⟩
       go_wp2
       refine AnyOrder.wp_region (by kernel_rfl) (rc7Inv wr.drew ad ado n c0 i' k no co x y true false _ _ _ _ _ _ _ _ _ _ _ _ _ _ _ _ _ _ _ _ _ _ _ _ _ _ _ _ _ _ _ _ _ _ _ _ _ _ _ _ _ _ _ _ _ _ _ _ _) ⟨false, false, false, false, false, false, false, false, false, false, false, false, false, false, false, rfl, rfl, ⟨Below.refl _ _⟩⟩ ?step ?last
       case step =>
        rintro L ac V i ⟨l0, l1, l2, l3, l4, l5, l6, l7, l8, l9, l10, l11, l12, l13, l14, rfl, rfl, HF⟩ hi K hK
        have h1 : i = 0 ∨ i = 1 ∨ i = 2 ∨ i = 3 ∨ i = 4 ∨ i = 5 ∨ i = 6 ∨ i = 7 ∨ i = 8 ∨ i = 9 ∨ i = 10 ∨ i = 11 ∨ i = 12 ∨ i = 13 ∨ i = 14 := by
         have h1 := (AnyOrder.mem_ready hi).1
         clear hi hK
         change i < 15 at h1
         omega
        rcases h1 with rfl | rfl | rfl | rfl | rfl | rfl | rfl | rfl | rfl | rfl | rfl | rfl | rfl | rfl | rfl
        ·
         obtain rfl : l0 = false := (AnyOrder.mem_ready hi).2.1
         clear hi
         refine AnyOrder.wpOp_go rfl (by rfl) ?_
         go_wp2_with fail
         exact ⟨true, l1, l2, l3, l4, l5, l6, l7, l8, l9, l10, l11, l12, l13, l14, rfl, rfl, HF⟩
        ·
         obtain rfl : l1 = false := (AnyOrder.mem_ready hi).2.1
         clear hi
         refine AnyOrder.wpOp_go rfl (by rfl) ?_
         go_wp2_with fail
         exact ⟨l0, true, l2, l3, l4, l5, l6, l7, l8, l9, l10, l11, l12, l13, l14, rfl, rfl, HF⟩
        ·
         obtain rfl : l2 = false := (AnyOrder.mem_ready hi).2.1
         obtain rfl : l1 = true := AnyOrder.dep (q := 0) hi rfl rfl rfl
         clear hi
         simp only [sel_true, selv_true] at hK ⊢
         refine AnyOrder.wpOp_go rfl (by rfl) ?_
         go_wp2_with fail
         exact ⟨l0, true, true, l3, l4, l5, l6, l7, l8, l9, l10, l11, l12, l13, l14, rfl, rfl, HF⟩
        ·
         obtain rfl : l3 = false := (AnyOrder.mem_ready hi).2.1
         obtain rfl : l0 = true := AnyOrder.dep (q := 0) hi rfl rfl rfl
         obtain rfl : l2 = true := AnyOrder.dep (q := 1) hi rfl rfl rfl
         clear hi
         simp only [sel_true, selv_true] at hK ⊢
         have hdec : decide ((k : Int) < (no : Int)) = true := decide_eq_true (by omega)
         refine AnyOrder.wpOp_go rfl (by rfl) ?_
         go_wp2_with fail
         exact ⟨true, l1, true, true, l4, l5, l6, l7, l8, l9, l10, l11, l12, l13, l14, rfl, rfl, HF⟩
        ·
         obtain rfl : l4 = false := (AnyOrder.mem_ready hi).2.1
         obtain rfl : l3 = true := AnyOrder.dep (q := 0) hi rfl rfl rfl
         clear hi
         simp only [sel_true, selv_true] at hK ⊢
         refine AnyOrder.wpOp_go rfl (by rfl) ?_
         go_wp2_with fail
         exact ⟨l0, l1, l2, true, true, l5, l6, l7, l8, l9, l10, l11, l12, l13, l14, rfl, rfl, HF⟩
        ·
         obtain rfl : l5 = false := (AnyOrder.mem_ready hi).2.1
         obtain rfl : l4 = true := AnyOrder.dep (q := 0) hi rfl rfl rfl
         clear hi
         simp only [sel_true, selv_true] at hK ⊢
         refine AnyOrder.wpOp_go rfl (by rfl) ?_
         go_wp2_with fail
         exact ⟨l0, l1, l2, l3, true, true, l6, l7, l8, l9, l10, l11, l12, l13, l14, rfl, rfl, HF⟩
        ·
         obtain rfl : l6 = false := (AnyOrder.mem_ready hi).2.1
         obtain rfl : l4 = true := AnyOrder.dep (q := 0) hi rfl rfl rfl
         clear hi
         simp only [sel_true, selv_true] at hK ⊢
         refine AnyOrder.wpOp_go rfl (by rfl) ?_
         go_wp2_with fail
         exact ⟨l0, l1, l2, l3, true, l5, true, l7, l8, l9, l10, l11, l12, l13, l14, rfl, rfl, HF⟩
        ·
         obtain rfl : l7 = false := (AnyOrder.mem_ready hi).2.1
         obtain rfl : l5 = true := AnyOrder.dep (q := 0) hi rfl rfl rfl
         obtain rfl : l6 = true := AnyOrder.dep (q := 1) hi rfl rfl rfl
         obtain rfl : l4 = true := AnyOrder.dep (q := 2) hi rfl rfl rfl
         clear hi
         simp only [sel_true, selv_true] at hK ⊢
         have hkk := HKN.out.1
         have hkl2 := HKN.out.2
         refine AnyOrder.wpOp_go rfl (by rfl) ?_
         go_wp2_with fail
         exact ⟨l0, l1, l2, l3, true, true, true, true, l8, l9, l10, l11, l12, l13, l14, rfl, rfl, HF⟩
        ·
         obtain rfl : l8 = false := (AnyOrder.mem_ready hi).2.1
         obtain rfl : l7 = true := AnyOrder.dep (q := 0) hi rfl rfl rfl
         obtain rfl : l4 = true := AnyOrder.dep (q := 1) hi rfl rfl rfl
         clear hi
         simp only [sel_true, selv_true] at hK ⊢
         obtain ⟨y0, y1, y2, y3, y4, y5⟩ := HY.out
         have y0 := pw_cell_below HF.out y0
         have y1 := pw_cell_below HF.out y1
         have y2 := pw_cell_below HF.out y2
         have y3 := pw_cell_below HF.out y3
         have y4 := pw_cell_below HF.out y4
         have y5 := pw_cell_below HF.out y5
         refine AnyOrder.wpOp_go rfl (by rfl) ?_
         go_wp2_with fail
         exact ⟨l0, l1, l2, l3, true, l5, l6, true, true, l9, l10, l11, l12, l13, l14, rfl, rfl, HF⟩
        ·
         obtain rfl : l9 = false := (AnyOrder.mem_ready hi).2.1
         obtain rfl : l4 = true := AnyOrder.dep (q := 0) hi rfl rfl rfl
         clear hi
         simp only [sel_true, selv_true] at hK ⊢
         refine AnyOrder.wpOp_go rfl (by rfl) ?_
         go_wp2_with fail
         exact ⟨l0, l1, l2, l3, true, l5, l6, l7, l8, true, l10, l11, l12, l13, l14, rfl, rfl, HF⟩
        ·
         obtain rfl : l10 = false := (AnyOrder.mem_ready hi).2.1
         obtain rfl : l4 = true := AnyOrder.dep (q := 0) hi rfl rfl rfl
         clear hi
         simp only [sel_true, selv_true] at hK ⊢
         refine AnyOrder.wpOp_go rfl (by rfl) ?_
         go_wp2_with fail
         exact ⟨l0, l1, l2, l3, true, l5, l6, l7, l8, l9, true, l11, l12, l13, l14, rfl, rfl, HF⟩
        ·
         obtain rfl : l11 = false := (AnyOrder.mem_ready hi).2.1
         obtain rfl : l9 = true := AnyOrder.dep (q := 0) hi rfl rfl rfl
         obtain rfl : l10 = true := AnyOrder.dep (q := 1) hi rfl rfl rfl
         obtain rfl : l4 = true := AnyOrder.dep (q := 2) hi rfl rfl rfl
         clear hi
         simp only [sel_true, selv_true] at hK ⊢
         have hkk := HXI.out.1
         have hkl2 := HXI.out.2
         refine AnyOrder.wpOp_go rfl (by rfl) ?_
         go_wp2_with fail
         exact ⟨l0, l1, l2, l3, true, l5, l6, l7, l8, true, true, true, l12, l13, l14, rfl, rfl, HF⟩
        ·
         obtain rfl : l12 = false := (AnyOrder.mem_ready hi).2.1
         obtain rfl : l11 = true := AnyOrder.dep (q := 0) hi rfl rfl rfl
         obtain rfl : l4 = true := AnyOrder.dep (q := 1) hi rfl rfl rfl
         clear hi
         simp only [sel_true, selv_true] at hK ⊢
         obtain ⟨g0, g1, g2, g3, g4, g5⟩ := HG.out
         have g0 := pw_cell_below HF.out g0
         have g1 := pw_cell_below HF.out g1
         have g2 := pw_cell_below HF.out g2
         have g3 := pw_cell_below HF.out g3
         have g4 := pw_cell_below HF.out g4
         have g5 := pw_cell_below HF.out g5
         refine AnyOrder.wpOp_go rfl (by rfl) ?_
         go_wp2_with fail
         exact ⟨l0, l1, l2, l3, true, l5, l6, l7, l8, l9, l10, true, true, l13, l14, rfl, rfl, HF⟩
        ·
         obtain rfl : l13 = false := (AnyOrder.mem_ready hi).2.1
         obtain rfl : l8 = true := AnyOrder.dep (q := 0) hi rfl rfl rfl
         obtain rfl : l12 = true := AnyOrder.dep (q := 1) hi rfl rfl rfl
         obtain rfl : l4 = true := AnyOrder.dep (q := 2) hi rfl rfl rfl
         clear hi
         simp only [sel_true, selv_true] at hK ⊢
         refine AnyOrder.wpOp_go rfl (by rfl) ?_
         go_wp2_with fail
         refine (redpencilref09_Before.calls _ _ _ _ _ _ _ _ _ _ _ _ false V (by rw [before_is, Hb.out])).mono ?_
         rintro e V' ⟨rfl, hb⟩
         exact hK _ _ ⟨l0, l1, l2, l3, true, l5, l6, l7, true, l9, l10, l11, true, true, l14, rfl, rfl, ⟨below_more HF.out hb⟩⟩
        ·
         obtain rfl : l14 = false := (AnyOrder.mem_ready hi).2.1
         obtain rfl : l4 = true := AnyOrder.dep (q := 0) hi rfl rfl rfl
         obtain rfl : l13 = true := AnyOrder.dep (q := 1) hi rfl rfl rfl
         clear hi
         simp only [sel_true, selv_true] at hK ⊢
         refine AnyOrder.wpOp_go rfl (by rfl) ?_
         go_wp2_with fail
         exact ⟨l0, l1, l2, l3, true, l5, l6, l7, l8, l9, l10, l11, l12, true, true, rfl, rfl, HF⟩
       case last =>
        rintro L ac V ⟨l0, l1, l2, l3, l4, l5, l6, l7, l8, l9, l10, l11, l12, l13, l14, rfl, rfl, HF⟩ hr
        have hall := AnyOrder.all_listed rfl (by kernel_rfl) hr
        clear hr
        obtain rfl : l0 = true := hall 0 (by decide)
        obtain rfl : l1 = true := hall 1 (by decide)
        obtain rfl : l2 = true := hall 2 (by decide)
        obtain rfl : l3 = true := hall 3 (by decide)
        obtain rfl : l4 = true := hall 4 (by decide)
        obtain rfl : l5 = true := hall 5 (by decide)
        obtain rfl : l6 = true := hall 6 (by decide)
        obtain rfl : l7 = true := hall 7 (by decide)
        obtain rfl : l8 = true := hall 8 (by decide)
        obtain rfl : l9 = true := hall 9 (by decide)
        obtain rfl : l10 = true := hall 10 (by decide)
        obtain rfl : l11 = true := hall 11 (by decide)
        obtain rfl : l12 = true := hall 12 (by decide)
        obtain rfl : l13 = true := hall 13 (by decide)
        obtain rfl : l14 = true := hall 14 (by decide)
        clear hall
        simp only [sel_true, selv_true]
        have HHF := Aside0.mk (below_more (below_drew1 HB2.out) HF.out)
        clear HF
        generalize V = V9 at *
        have HHO9 := Aside0.mk (RN.C (RN.below' HHO.out (below_drew1 HHF.out)))
        have HB9 := Aside0.mk (below_more HHB.out (below_drew1 HHF.out))
        obtain ⟨ad', e, g0, g1, g2, g3, g4, g5⟩ := node_at HR.out HB9.out i' x Hx.out
        cases e
        have HG := Aside0.mk (And.intro g0 (And.intro g1 (And.intro g2 (And.intro g3 (And.intro g4 g5)))))
        have HKC : Aside0 (k ≤ no ∧ no ≤ 400000) := ⟨⟨Nat.le_of_lt hkl, HNO.out⟩⟩
        clear g0 g1 g2 g3 g4 g5
        obtain ⟨out, Hout⟩ : ∃ out, Aside0 (kids (l0.take i') d = out) := ⟨_, ⟨rfl⟩⟩
        rw [Hout.out] at HHO9 HCUT HST
        obtain ⟨m3, Hm3⟩ : ∃ m3, Aside0 (no - k = m3) := ⟨_, ⟨rfl⟩⟩
        obtain ⟨q3, Hq3⟩ : ∃ q3, Aside0 (co - k = q3) := ⟨_, ⟨rfl⟩⟩
        obtain ⟨Ac, HAc⟩ : ∃ Ac, Aside0 ((if co = k then (some ado) else Option.map (·.add (k * 6)) (some ado)) = Ac) := ⟨_, ⟨rfl⟩⟩
        have HCD : Aside0 (Kd.C k35 V9.drew Ac m3 (out.drop k)) := ⟨by rw [← HAc.out, ← Hm3.out]; exact C_from HHO9.out.2.2 HHO9.out.1 HKC.out.1 HHO9.out.2.1⟩
        have HCF : Aside0 (∀ W, (Instr.sliceAt 22 (.slice (some ado) no co) (some (.int .i64 (k : Int))) none none).run Tryz.prog W = .ok (.slice Ac m3 q3) W) := ⟨fun W => by rw [← HAc.out, ← Hm3.out, ← Hq3.out]; exact cut_fromN HKC.out.1 W⟩
        go_wp2_with fail
        refine AnyOrder.wp_region (by kernel_rfl) (rc9Inv V9.drew ad (some ado) Ac n c0 i' k no co m3 q3 x out _ _ _ _ _ _ _ _ _ _ _ _ _ _ _ _ _ _ _ _ _ _ _ _ _ _ _ _ _ _ _ _ _ _ _ _ _ _ _ _ _ _ _ _ _ _ _ _ _) ⟨false, false, false, false, false, false, false, false, false, false, false, false, false, false, false, 0, undef, undef, undef, rfl, rfl, ⟨⟨fun h => (by cases h), fun h => (by cases h), fun h => (by cases h), Below.refl _ _, fun h _ => (by cases h), fun h _ => (by cases h), fun h _ => (by cases h), fun h => (by cases h)⟩⟩⟩ ?step ?last
        case step =>
         rintro L ac V i ⟨l0, l1, l2, l3, l4, l5, l6, l7, l8, l9, l10, l11, l12, l13, l14, g, v1, v2, v3, rfl, rfl, HF⟩ hi K hK
         have h1 : i = 0 ∨ i = 1 ∨ i = 2 ∨ i = 3 ∨ i = 4 ∨ i = 5 ∨ i = 6 ∨ i = 7 ∨ i = 8 ∨ i = 9 ∨ i = 10 ∨ i = 11 ∨ i = 12 ∨ i = 13 ∨ i = 14 := by
          have h1 := (AnyOrder.mem_ready hi).1
          clear hi hK
          change i < 15 at h1
          omega
         rcases h1 with rfl | rfl | rfl | rfl | rfl | rfl | rfl | rfl | rfl | rfl | rfl | rfl | rfl | rfl | rfl
         ·
          obtain rfl : l0 = false := (AnyOrder.mem_ready hi).2.1
          clear hi
          obtain rfl : l14 = false := by cases l14 with | false => rfl | true => cases (HF.out.ord14 rfl).2.1
          (try simp only [sel_false, selv_false] at hK ⊢)
          refine AnyOrder.wpOp_go rfl (by rfl) ?_
          go_wp2_with fail
          exact ⟨true, l1, l2, l3, l4, l5, l6, l7, l8, l9, l10, l11, l12, l13, false, g, v1, v2, v3, rfl, rfl, ⟨⟨HF.out.ord9, HF.out.ord13, fun h => (by cases h), HF.out.below, HF.out.r1, HF.out.bx, HF.out.r2, HF.out.r3⟩⟩⟩
         ·
          obtain rfl : l1 = false := (AnyOrder.mem_ready hi).2.1
          clear hi
          refine AnyOrder.wpOp_go rfl (by rfl) ?_
          go_wp2_with fail
          exact ⟨l0, true, l2, l3, l4, l5, l6, l7, l8, l9, l10, l11, l12, l13, l14, g, v1, v2, v3, rfl, rfl, HF⟩
         ·
          obtain rfl : l2 = false := (AnyOrder.mem_ready hi).2.1
          obtain rfl : l0 = true := AnyOrder.dep (q := 0) hi rfl rfl rfl
          obtain rfl : l1 = true := AnyOrder.dep (q := 1) hi rfl rfl rfl
          clear hi
          simp only [sel_true, selv_true] at hK ⊢
          refine AnyOrder.wpOp_go rfl (by rfl) ?_
          refine op_slice 22 (.tmp 38) none (some (.tmp 39)) rfl rfl rfl rfl (cut_toN HKC.out.1 HHO9.out.2.1 V) ?_
          exact hK _ _ ⟨true, true, true, l3, l4, l5, l6, l7, l8, l9, l10, l11, l12, l13, l14, g, v1, v2, v3, rfl, rfl, HF⟩
         ·
          obtain rfl : l3 = false := (AnyOrder.mem_ready hi).2.1
          obtain rfl : l2 = true := AnyOrder.dep (q := 0) hi rfl rfl rfl
          clear hi
          simp only [sel_true, selv_true] at hK ⊢
          obtain ⟨rfl, rfl, rfl⟩ := HF.out.no (.inl rfl)
          refine AnyOrder.wpOp_go rfl (by rfl) ?_
          refine op_append_node V9.drew.heap.size rfl (.const (.slice none 0 0)) (.tmp 40) rfl (.slice none 0 0) [] (out.take k) (some ado) k co rfl rfl (Kd.R_nil _ _ _ _ _) (C_to (Kd.C_below HHO9.out.2.2 HF.out.below) HHO9.out.1 HKC.out.1) HF.out.below.size (by have h1 := HKC.out.1; have h2 := HKC.out.2; simp; omega) ?_
          intro u1 V1 hr1 hg1 _
          have hb1 := grown_nil hg1
          exact hK _ _ ⟨l0, l1, true, true, l4, l5, l6, l7, l8, false, l10, l11, l12, false, false, g, u1, v2, v3, rfl, rfl, ⟨⟨fun h => (by cases h), fun h => (by cases h), fun h => (by cases h), below_more HF.out.below hb1, fun _ _ => hr1, fun h _ => blk_keep (HF.out.bx h rfl) hb1, fun h _ => (by cases h), fun h => (by cases h)⟩⟩⟩
         ·
          obtain rfl : l4 = false := (AnyOrder.mem_ready hi).2.1
          clear hi
          refine AnyOrder.wpOp_go rfl (by rfl) ?_
          go_wp2_with fail
          exact ⟨l0, l1, l2, l3, true, l5, l6, l7, l8, l9, l10, l11, l12, l13, l14, g, v1, v2, v3, rfl, rfl, HF⟩
         ·
          obtain rfl : l5 = false := (AnyOrder.mem_ready hi).2.1
          clear hi
          refine AnyOrder.wpOp_go rfl (by rfl) ?_
          go_wp2_with fail
          exact ⟨l0, l1, l2, l3, l4, true, l6, l7, l8, l9, l10, l11, l12, l13, l14, g, v1, v2, v3, rfl, rfl, HF⟩
         ·
          obtain rfl : l6 = false := (AnyOrder.mem_ready hi).2.1
          obtain rfl : l4 = true := AnyOrder.dep (q := 0) hi rfl rfl rfl
          obtain rfl : l5 = true := AnyOrder.dep (q := 1) hi rfl rfl rfl
          clear hi
          simp only [sel_true, selv_true] at hK ⊢
          have hkk := HXI.out.1
          have hkl2 := HXI.out.2
          refine AnyOrder.wpOp_go rfl (by rfl) ?_
          go_wp2_with fail
          exact ⟨l0, l1, l2, l3, true, true, true, l7, l8, l9, l10, l11, l12, l13, l14, g, v1, v2, v3, rfl, rfl, HF⟩
         ·
          obtain rfl : l7 = false := (AnyOrder.mem_ready hi).2.1
          obtain rfl : l6 = true := AnyOrder.dep (q := 0) hi rfl rfl rfl
          clear hi
          simp only [sel_true, selv_true] at hK ⊢
          obtain ⟨g0, g1, g2, g3, g4, g5⟩ := HG.out
          have g0 := pw_cell_below HF.out.below g0
          have g1 := pw_cell_below HF.out.below g1
          have g2 := pw_cell_below HF.out.below g2
          have g3 := pw_cell_below HF.out.below g3
          have g4 := pw_cell_below HF.out.below g4
          have g5 := pw_cell_below HF.out.below g5
          refine AnyOrder.wpOp_go rfl (by rfl) ?_
          go_wp2_with fail
          exact ⟨l0, l1, l2, l3, l4, l5, true, true, l8, l9, l10, l11, l12, l13, l14, g, v1, v2, v3, rfl, rfl, HF⟩
         ·
          obtain rfl : l8 = false := (AnyOrder.mem_ready hi).2.1
          obtain rfl : l7 = true := AnyOrder.dep (q := 0) hi rfl rfl rfl
          clear hi
          simp only [sel_true, selv_true] at hK ⊢
          obtain ⟨rfl, rfl, rfl⟩ := HF.out.no (.inr rfl)
          have hb1 := (Gr.alloc V (boxN x)).below
          refine AnyOrder.wpOp_go rfl (by rfl) ?_
          go_wp2_with fail
          exact ⟨l0, l1, l2, l3, l4, l5, l6, true, true, false, l10, l11, l12, false, false, V.heap.size, v1, v2, v3, rfl, rfl, ⟨⟨fun h => (by cases h), fun h => (by cases h), fun h => (by cases h), below_more HF.out.below hb1, fun h _ => RN.below' (HF.out.r1 h rfl) hb1, fun _ _ => blk_new _ _, fun h _ => (by cases h), fun h => (by cases h)⟩⟩⟩
         ·
          obtain rfl : l9 = false := (AnyOrder.mem_ready hi).2.1
          obtain rfl : l3 = true := AnyOrder.dep (q := 0) hi rfl rfl rfl
          obtain rfl : l8 = true := AnyOrder.dep (q := 1) hi rfl rfl rfl
          clear hi
          simp only [sel_true, selv_true] at hK ⊢
          obtain rfl : l13 = false := by cases l13 with | false => rfl | true => cases HF.out.ord13 rfl
          obtain rfl : l14 = false := by cases l14 with | false => rfl | true => cases (HF.out.ord14 rfl).1
          have hr1 := HF.out.r1 rfl rfl
          refine AnyOrder.wpOp_go rfl (by rfl) ?_
          refine op_append_node V9.drew.heap.size rfl (.tmp 41) (.tmp 46) rfl v1 (out.take k) [x] (some ⟨g, 0, none⟩) 1 1 rfl rfl hr1 (boxN_C (HF.out.bx rfl rfl)) HF.out.below.size (by have h1 := HKC.out.1; have h2 := HKC.out.2; rw [List.length_take]; omega) ?_
          intro u2 V2 hr2 hg2 _
          exact hK _ _ ⟨l0, l1, l2, true, l4, l5, l6, l7, true, true, l10, l11, l12, false, false, g, v1, u2, v3, rfl, rfl, ⟨⟨fun _ => ⟨rfl, rfl⟩, fun h => (by cases h), fun h => (by cases h), grown_below HF.out.below hr1 hg2, fun _ h => (by cases h), fun _ h => (by cases h), fun _ _ => hr2, fun h => (by cases h)⟩⟩⟩
         ·
          obtain rfl : l10 = false := (AnyOrder.mem_ready hi).2.1
          clear hi
          obtain rfl : l14 = false := by cases l14 with | false => rfl | true => cases (HF.out.ord14 rfl).2.2
          (try simp only [sel_false, selv_false] at hK ⊢)
          refine AnyOrder.wpOp_go rfl (by rfl) ?_
          go_wp2_with fail
          exact ⟨l0, l1, l2, l3, l4, l5, l6, l7, l8, l9, true, l11, l12, l13, false, g, v1, v2, v3, rfl, rfl, ⟨⟨HF.out.ord9, HF.out.ord13, fun h => (by cases h), HF.out.below, HF.out.r1, HF.out.bx, HF.out.r2, HF.out.r3⟩⟩⟩
         ·
          obtain rfl : l11 = false := (AnyOrder.mem_ready hi).2.1
          clear hi
          refine AnyOrder.wpOp_go rfl (by rfl) ?_
          go_wp2_with fail
          exact ⟨l0, l1, l2, l3, l4, l5, l6, l7, l8, l9, l10, true, l12, l13, l14, g, v1, v2, v3, rfl, rfl, HF⟩
         ·
          obtain rfl : l12 = false := (AnyOrder.mem_ready hi).2.1
          obtain rfl : l10 = true := AnyOrder.dep (q := 0) hi rfl rfl rfl
          obtain rfl : l11 = true := AnyOrder.dep (q := 1) hi rfl rfl rfl
          clear hi
          simp only [sel_true, selv_true] at hK ⊢
          refine AnyOrder.wpOp_go rfl (by rfl) ?_
          refine op_slice 22 (.tmp 48) (some (.tmp 49)) none rfl rfl rfl rfl (HCF.out V) ?_
          exact hK _ _ ⟨l0, l1, l2, l3, l4, l5, l6, l7, l8, l9, true, true, true, l13, l14, g, v1, v2, v3, rfl, rfl, HF⟩
         ·
          obtain rfl : l13 = false := (AnyOrder.mem_ready hi).2.1
          obtain rfl : l9 = true := AnyOrder.dep (q := 0) hi rfl rfl rfl
          obtain rfl : l12 = true := AnyOrder.dep (q := 1) hi rfl rfl rfl
          clear hi
          simp only [sel_true, selv_true] at hK ⊢
          obtain rfl : l14 = false := by cases l14 with | false => rfl | true => cases (HF.out.ord14 rfl).1
          have hr2 := HF.out.r2 rfl rfl
          refine AnyOrder.wpOp_go rfl (by rfl) ?_
          refine op_append_node V9.drew.heap.size rfl (.tmp 47) (.tmp 50) rfl v2 (out.take k ++ [x]) (out.drop k) Ac m3 q3 rfl rfl hr2 (Kd.C_below HCD.out HF.out.below) HF.out.below.size (by have h1 := HKC.out.1; have h2 := HKC.out.2; have h3 := Hm3.out; rw [List.length_append, List.length_take, List.length_singleton]; omega) ?_
          intro u3 V3 hr3 hg3 _
          exact hK _ _ ⟨l0, l1, l2, l3, l4, l5, l6, l7, l8, true, l10, l11, true, true, false, g, v1, v2, u3, rfl, rfl, ⟨⟨HF.out.ord9, fun _ => rfl, fun h => (by cases h), grown_below HF.out.below hr2 hg3, fun _ h => (by cases h), fun _ h => (by cases h), fun _ h => (by cases h), fun _ => by rw [HCUT.out]; exact hr3⟩⟩⟩
         ·
          obtain rfl : l14 = false := (AnyOrder.mem_ready hi).2.1
          obtain rfl : l13 = true := AnyOrder.dep (q := 0) hi rfl rfl rfl
          obtain rfl : l0 = true := AnyOrder.dep (q := 2) hi rfl rfl rfl
          obtain rfl : l1 = true := AnyOrder.dep (q := 3) hi rfl rfl rfl
          obtain rfl : l2 = true := AnyOrder.dep (q := 4) hi rfl rfl rfl
          obtain rfl : l3 = true := AnyOrder.dep (q := 5) hi rfl rfl rfl
          obtain rfl : l4 = true := AnyOrder.dep (q := 6) hi rfl rfl rfl
          obtain rfl : l5 = true := AnyOrder.dep (q := 7) hi rfl rfl rfl
          obtain rfl : l6 = true := AnyOrder.dep (q := 8) hi rfl rfl rfl
          obtain rfl : l7 = true := AnyOrder.dep (q := 9) hi rfl rfl rfl
          obtain rfl : l8 = true := AnyOrder.dep (q := 10) hi rfl rfl rfl
          obtain rfl : l9 = true := AnyOrder.dep (q := 11) hi rfl rfl rfl
          obtain rfl : l10 = true := AnyOrder.dep (q := 12) hi rfl rfl rfl
          obtain rfl : l11 = true := AnyOrder.dep (q := 13) hi rfl rfl rfl
          obtain rfl : l12 = true := AnyOrder.dep (q := 14) hi rfl rfl rfl
          clear hi
          simp only [sel_true, selv_true] at hK ⊢
          refine AnyOrder.wpOp_go rfl (by rfl) ?_
          go_wp2_with fail
          exact ⟨true, true, true, true, true, true, true, true, true, true, true, true, true, true, true, g, v1, v2, v3, rfl, rfl, ⟨⟨HF.out.ord9, HF.out.ord13, fun _ => ⟨rfl, rfl, rfl⟩, HF.out.below, HF.out.r1, HF.out.bx, HF.out.r2, HF.out.r3⟩⟩⟩
        case last =>
         rintro L ac V ⟨l0, l1, l2, l3, l4, l5, l6, l7, l8, l9, l10, l11, l12, l13, l14, g, v1, v2, v3, rfl, rfl, HF⟩ hr
         have hall := AnyOrder.all_listed rfl (by kernel_rfl) hr
         clear hr
         obtain rfl : l0 = true := hall 0 (by decide)
         obtain rfl : l1 = true := hall 1 (by decide)
         obtain rfl : l2 = true := hall 2 (by decide)
         obtain rfl : l3 = true := hall 3 (by decide)
         obtain rfl : l4 = true := hall 4 (by decide)
         obtain rfl : l5 = true := hall 5 (by decide)
         obtain rfl : l6 = true := hall 6 (by decide)
         obtain rfl : l7 = true := hall 7 (by decide)
         obtain rfl : l8 = true := hall 8 (by decide)
         obtain rfl : l9 = true := hall 9 (by decide)
         obtain rfl : l10 = true := hall 10 (by decide)
         obtain rfl : l11 = true := hall 11 (by decide)
         obtain rfl : l12 = true := hall 12 (by decide)
         obtain rfl : l13 = true := hall 13 (by decide)
         obtain rfl : l14 = true := hall 14 (by decide)
         clear hall
         simp only [sel_true, selv_true]
         have HR3 := Aside0.mk (HF.out.r3 rfl)
         have HB3 := Aside0.mk (below_more HB9.out HF.out.below)
         have HK3 := Aside0.mk (blk_keep (blk_keep HHK.out (below_drew1 HHF.out)) HF.out.below)
         have hn4 := HXI.out.2
         obtain ⟨A3, c3, rfl⟩ := RN.slice HR3.out
         obtain ⟨n3, hn3⟩ : ∃ n3, (insB x out).length = n3 := ⟨_, rfl⟩
         rw [hn3] at HR3 ⊢
         clear HF hn3
         go_wp2
         go_roundw
         case rel => exact ⟨i' + 1, A3, n3, c3, by omega, by go_num, rfl, ⟨by rw [HST.out]; exact Kd.R_lower HR3.out HB9.out.size⟩, HK3, HB3⟩
         case measure => simp [intOf] <;> omega
     ·
      obtain rfl : k = no := by omega
      have HCUT : Aside0 (insB x (kids (l0.take i') d) = (kids (l0.take i') d).take k ++ [x] ++ (kids (l0.take i') d).drop k) := ⟨by rw [insB_cut, cutN_is (k := k) (by rw [HOC.out.1]; exact hk) HPRE.out (fun z hz => by rw [List.getElem?_eq_none (by rw [HOC.out.1]; exact hk)] at hz; cases hz)]; simp⟩
      go_wp2
      refine AnyOrder.wp_region (by kernel_rfl) (rc7eInv wr.drew ad Ao n c0 i' k k co x x false false _ _ _ _ _ _ _ _ _ _ _ _ _ _ _ _ _ _ _ _ _ _ _ _ _ _ _ _ _ _ _ _ _ _ _ _ _ _ _ _ _ _ _ _ _ _ _ _ _) ⟨false, false, false, false, false, false, false, false, false, false, false, false, false, false, false, rfl, rfl, ⟨Below.refl _ _⟩⟩ ?step ?last
      case step =>
       rintro L ac V i ⟨l0, l1, l2, l3, l4, l5, l6, l7, l8, l9, l10, l11, l12, l13, l14, rfl, rfl, HF⟩ hi K hK
       have h1 : i = 0 ∨ i = 1 ∨ i = 2 ∨ i = 3 ∨ i = 4 ∨ i = 5 ∨ i = 6 ∨ i = 7 ∨ i = 8 ∨ i = 9 ∨ i = 10 ∨ i = 11 ∨ i = 12 ∨ i = 13 ∨ i = 14 := by
        have h1 := (AnyOrder.mem_ready hi).1
        clear hi hK
        change i < 15 at h1
        omega
       rcases h1 with rfl | rfl | rfl | rfl | rfl | rfl | rfl | rfl | rfl | rfl | rfl | rfl | rfl | rfl | rfl
       ·
        obtain rfl : l0 = false := (AnyOrder.mem_ready hi).2.1
        clear hi
        refine AnyOrder.wpOp_go rfl (by rfl) ?_
        go_wp2_with fail
        exact ⟨true, l1, l2, l3, l4, l5, l6, l7, l8, l9, l10, l11, l12, l13, l14, rfl, rfl, HF⟩
       ·
        obtain rfl : l1 = false := (AnyOrder.mem_ready hi).2.1
        clear hi
        refine AnyOrder.wpOp_go rfl (by rfl) ?_
        go_wp2_with fail
        exact ⟨l0, true, l2, l3, l4, l5, l6, l7, l8, l9, l10, l11, l12, l13, l14, rfl, rfl, HF⟩
       ·
        obtain rfl : l2 = false := (AnyOrder.mem_ready hi).2.1
        obtain rfl : l1 = true := AnyOrder.dep (q := 0) hi rfl rfl rfl
        clear hi
        simp only [sel_true, selv_true] at hK ⊢
        refine AnyOrder.wpOp_go rfl (by rfl) ?_
        go_wp2_with fail
        exact ⟨l0, true, true, l3, l4, l5, l6, l7, l8, l9, l10, l11, l12, l13, l14, rfl, rfl, HF⟩
       ·
        obtain rfl : l3 = false := (AnyOrder.mem_ready hi).2.1
        obtain rfl : l0 = true := AnyOrder.dep (q := 0) hi rfl rfl rfl
        obtain rfl : l2 = true := AnyOrder.dep (q := 1) hi rfl rfl rfl
        clear hi
        simp only [sel_true, selv_true] at hK ⊢
        have hdec : decide ((k : Int) < (k : Int)) = false := decide_eq_false (by omega)
        refine AnyOrder.wpOp_go rfl (by rfl) ?_
        go_wp2_with fail
        exact ⟨true, l1, true, true, l4, l5, l6, l7, l8, l9, l10, l11, l12, l13, l14, rfl, rfl, HF⟩
       ·
        obtain rfl : l4 = false := (AnyOrder.mem_ready hi).2.1
        obtain rfl : l3 = true := AnyOrder.dep (q := 0) hi rfl rfl rfl
        clear hi
        simp only [sel_true, selv_true] at hK ⊢
        refine AnyOrder.wpOp_go rfl (by rfl) ?_
        go_wp2_with fail
        exact ⟨l0, l1, l2, true, true, l5, l6, l7, l8, l9, l10, l11, l12, l13, l14, rfl, rfl, HF⟩
       ·
        obtain rfl : l5 = false := (AnyOrder.mem_ready hi).2.1
        obtain rfl : l4 = true := AnyOrder.dep (q := 0) hi rfl rfl rfl
        clear hi
        simp only [sel_true, selv_true] at hK ⊢
        refine AnyOrder.wpOp_out rfl (by rfl) ?_
        exact hK _ _ ⟨l0, l1, l2, l3, true, true, l6, l7, l8, l9, l10, l11, l12, l13, l14, rfl, rfl, HF⟩
       ·
        obtain rfl : l6 = false := (AnyOrder.mem_ready hi).2.1
        obtain rfl : l4 = true := AnyOrder.dep (q := 0) hi rfl rfl rfl
        clear hi
        simp only [sel_true, selv_true] at hK ⊢
        refine AnyOrder.wpOp_out rfl (by rfl) ?_
        exact hK _ _ ⟨l0, l1, l2, l3, true, l5, true, l7, l8, l9, l10, l11, l12, l13, l14, rfl, rfl, HF⟩
       ·
        obtain rfl : l7 = false := (AnyOrder.mem_ready hi).2.1
        obtain rfl : l5 = true := AnyOrder.dep (q := 0) hi rfl rfl rfl
        obtain rfl : l6 = true := AnyOrder.dep (q := 1) hi rfl rfl rfl
        obtain rfl : l4 = true := AnyOrder.dep (q := 2) hi rfl rfl rfl
        clear hi
        simp only [sel_true, selv_true] at hK ⊢
        refine AnyOrder.wpOp_out rfl (by rfl) ?_
        exact hK _ _ ⟨l0, l1, l2, l3, true, true, true, true, l8, l9, l10, l11, l12, l13, l14, rfl, rfl, HF⟩
       ·
        obtain rfl : l8 = false := (AnyOrder.mem_ready hi).2.1
        obtain rfl : l7 = true := AnyOrder.dep (q := 0) hi rfl rfl rfl
        obtain rfl : l4 = true := AnyOrder.dep (q := 1) hi rfl rfl rfl
        clear hi
        simp only [sel_true, selv_true] at hK ⊢
        refine AnyOrder.wpOp_out rfl (by rfl) ?_
        exact hK _ _ ⟨l0, l1, l2, l3, true, l5, l6, true, true, l9, l10, l11, l12, l13, l14, rfl, rfl, HF⟩
       ·
        obtain rfl : l9 = false := (AnyOrder.mem_ready hi).2.1
        obtain rfl : l4 = true := AnyOrder.dep (q := 0) hi rfl rfl rfl
        clear hi
        simp only [sel_true, selv_true] at hK ⊢
        refine AnyOrder.wpOp_out rfl (by rfl) ?_
        exact hK _ _ ⟨l0, l1, l2, l3, true, l5, l6, l7, l8, true, l10, l11, l12, l13, l14, rfl, rfl, HF⟩
       ·
        obtain rfl : l10 = false := (AnyOrder.mem_ready hi).2.1
        obtain rfl : l4 = true := AnyOrder.dep (q := 0) hi rfl rfl rfl
        clear hi
        simp only [sel_true, selv_true] at hK ⊢
        refine AnyOrder.wpOp_out rfl (by rfl) ?_
        exact hK _ _ ⟨l0, l1, l2, l3, true, l5, l6, l7, l8, l9, true, l11, l12, l13, l14, rfl, rfl, HF⟩
       ·
        obtain rfl : l11 = false := (AnyOrder.mem_ready hi).2.1
        obtain rfl : l9 = true := AnyOrder.dep (q := 0) hi rfl rfl rfl
        obtain rfl : l10 = true := AnyOrder.dep (q := 1) hi rfl rfl rfl
        obtain rfl : l4 = true := AnyOrder.dep (q := 2) hi rfl rfl rfl
        clear hi
        simp only [sel_true, selv_true] at hK ⊢
        refine AnyOrder.wpOp_out rfl (by rfl) ?_
        exact hK _ _ ⟨l0, l1, l2, l3, true, l5, l6, l7, l8, true, true, true, l12, l13, l14, rfl, rfl, HF⟩
       ·
        obtain rfl : l12 = false := (AnyOrder.mem_ready hi).2.1
        obtain rfl : l11 = true := AnyOrder.dep (q := 0) hi rfl rfl rfl
        obtain rfl : l4 = true := AnyOrder.dep (q := 1) hi rfl rfl rfl
        clear hi
        simp only [sel_true, selv_true] at hK ⊢
        refine AnyOrder.wpOp_out rfl (by rfl) ?_
        exact hK _ _ ⟨l0, l1, l2, l3, true, l5, l6, l7, l8, l9, l10, true, true, l13, l14, rfl, rfl, HF⟩
       ·
        obtain rfl : l13 = false := (AnyOrder.mem_ready hi).2.1
        obtain rfl : l8 = true := AnyOrder.dep (q := 0) hi rfl rfl rfl
        obtain rfl : l12 = true := AnyOrder.dep (q := 1) hi rfl rfl rfl
        obtain rfl : l4 = true := AnyOrder.dep (q := 2) hi rfl rfl rfl
        clear hi
        simp only [sel_true, selv_true] at hK ⊢
        refine AnyOrder.wpOp_out rfl (by rfl) ?_
        exact hK _ _ ⟨l0, l1, l2, l3, true, l5, l6, l7, true, l9, l10, l11, true, true, l14, rfl, rfl, HF⟩
       ·
        obtain rfl : l14 = false := (AnyOrder.mem_ready hi).2.1
        obtain rfl : l4 = true := AnyOrder.dep (q := 0) hi rfl rfl rfl
        obtain rfl : l13 = true := AnyOrder.dep (q := 1) hi rfl rfl rfl
        clear hi
        simp only [sel_true, selv_true] at hK ⊢
        refine AnyOrder.wpOp_go rfl (by rfl) ?_
        go_wp2_with fail
        exact ⟨l0, l1, l2, l3, true, l5, l6, l7, l8, l9, l10, l11, l12, true, true, rfl, rfl, HF⟩
      case last =>
       rintro L ac V ⟨l0, l1, l2, l3, l4, l5, l6, l7, l8, l9, l10, l11, l12, l13, l14, rfl, rfl, HF⟩ hr
       have hall := AnyOrder.all_listed rfl (by kernel_rfl) hr
       clear hr
       obtain rfl : l0 = true := hall 0 (by decide)
       obtain rfl : l1 = true := hall 1 (by decide)
       obtain rfl : l2 = true := hall 2 (by decide)
       obtain rfl : l3 = true := hall 3 (by decide)
       obtain rfl : l4 = true := hall 4 (by decide)
       obtain rfl : l5 = true := hall 5 (by decide)
       obtain rfl : l6 = true := hall 6 (by decide)
       obtain rfl : l7 = true := hall 7 (by decide)
       obtain rfl : l8 = true := hall 8 (by decide)
       obtain rfl : l9 = true := hall 9 (by decide)
       obtain rfl : l10 = true := hall 10 (by decide)
       obtain rfl : l11 = true := hall 11 (by decide)
       obtain rfl : l12 = true := hall 12 (by decide)
       obtain rfl : l13 = true := hall 13 (by decide)
       obtain rfl : l14 = true := hall 14 (by decide)
       clear hall
       simp only [sel_true, selv_true]
       have HHF := Aside0.mk (below_more (below_drew1 HB2.out) HF.out)
       clear HF
       generalize V = V9 at *
       have HHO9 := Aside0.mk (RN.C (RN.below' HHO.out (below_drew1 HHF.out)))
       have HB9 := Aside0.mk (below_more HHB.out (below_drew1 HHF.out))
       obtain ⟨ad', e, g0, g1, g2, g3, g4, g5⟩ := node_at HR.out HB9.out i' x Hx.out
       cases e
       have HG := Aside0.mk (And.intro g0 (And.intro g1 (And.intro g2 (And.intro g3 (And.intro g4 g5)))))
       have HKC : Aside0 (k ≤ k ∧ k ≤ 400000) := ⟨⟨Nat.le_refl _, HNO.out⟩⟩
       clear g0 g1 g2 g3 g4 g5
       obtain ⟨out, Hout⟩ : ∃ out, Aside0 (kids (l0.take i') d = out) := ⟨_, ⟨rfl⟩⟩
       rw [Hout.out] at HHO9 HCUT HST
       obtain ⟨m3, Hm3⟩ : ∃ m3, Aside0 (k - k = m3) := ⟨_, ⟨rfl⟩⟩
       obtain ⟨q3, Hq3⟩ : ∃ q3, Aside0 (co - k = q3) := ⟨_, ⟨rfl⟩⟩
       obtain ⟨Ac, HAc⟩ : ∃ Ac, Aside0 ((if co = k then Ao else Option.map (·.add (k * 6)) Ao) = Ac) := ⟨_, ⟨rfl⟩⟩
       have HCD : Aside0 (Kd.C k35 V9.drew Ac m3 (out.drop k)) := ⟨by rw [← HAc.out, ← Hm3.out]; exact C_from HHO9.out.2.2 HHO9.out.1 HKC.out.1 HHO9.out.2.1⟩
       have HCF : Aside0 (∀ W, (Instr.sliceAt 22 (.slice Ao k co) (some (.int .i64 (k : Int))) none none).run Tryz.prog W = .ok (.slice Ac m3 q3) W) := ⟨fun W => by rw [← HAc.out, ← Hm3.out, ← Hq3.out]; exact cut_fromN HKC.out.1 W⟩
       go_wp2_with fail
       refine AnyOrder.wp_region (by kernel_rfl) (rc9Inv V9.drew ad Ao Ac n c0 i' k k co m3 q3 x out _ _ _ _ _ _ _ _ _ _ _ _ _ _ _ _ _ _ _ _ _ _ _ _ _ _ _ _ _ _ _ _ _ _ _ _ _ _ _ _ _ _ _ _ _ _ _ _ _) ⟨false, false, false, false, false, false, false, false, false, false, false, false, false, false, false, 0, undef, undef, undef, rfl, rfl, ⟨⟨fun h => (by cases h), fun h => (by cases h), fun h => (by cases h), Below.refl _ _, fun h _ => (by cases h), fun h _ => (by cases h), fun h _ => (by cases h), fun h => (by cases h)⟩⟩⟩ ?step ?last
       case step =>
        rintro L ac V i ⟨l0, l1, l2, l3, l4, l5, l6, l7, l8, l9, l10, l11, l12, l13, l14, g, v1, v2, v3, rfl, rfl, HF⟩ hi K hK
        have h1 : i = 0 ∨ i = 1 ∨ i = 2 ∨ i = 3 ∨ i = 4 ∨ i = 5 ∨ i = 6 ∨ i = 7 ∨ i = 8 ∨ i = 9 ∨ i = 10 ∨ i = 11 ∨ i = 12 ∨ i = 13 ∨ i = 14 := by
         have h1 := (AnyOrder.mem_ready hi).1
         clear hi hK
         change i < 15 at h1
         omega
        rcases h1 with rfl | rfl | rfl | rfl | rfl | rfl | rfl | rfl | rfl | rfl | rfl | rfl | rfl | rfl | rfl
        ·
         obtain rfl : l0 = false := (AnyOrder.mem_ready hi).2.1
         clear hi
         obtain rfl : l14 = false := by cases l14 with | false => rfl | true => cases (HF.out.ord14 rfl).2.1
         (try simp only [sel_false, selv_false] at hK ⊢)
         refine AnyOrder.wpOp_go rfl (by rfl) ?_
         go_wp2_with fail
         exact ⟨true, l1, l2, l3, l4, l5, l6, l7, l8, l9, l10, l11, l12, l13, false, g, v1, v2, v3, rfl, rfl, ⟨⟨HF.out.ord9, HF.out.ord13, fun h => (by cases h), HF.out.below, HF.out.r1, HF.out.bx, HF.out.r2, HF.out.r3⟩⟩⟩
        ·
         obtain rfl : l1 = false := (AnyOrder.mem_ready hi).2.1
         clear hi
         refine AnyOrder.wpOp_go rfl (by rfl) ?_
         go_wp2_with fail
         exact ⟨l0, true, l2, l3, l4, l5, l6, l7, l8, l9, l10, l11, l12, l13, l14, g, v1, v2, v3, rfl, rfl, HF⟩
        ·
         obtain rfl : l2 = false := (AnyOrder.mem_ready hi).2.1
         obtain rfl : l0 = true := AnyOrder.dep (q := 0) hi rfl rfl rfl
         obtain rfl : l1 = true := AnyOrder.dep (q := 1) hi rfl rfl rfl
         clear hi
         simp only [sel_true, selv_true] at hK ⊢
         refine AnyOrder.wpOp_go rfl (by rfl) ?_
         refine op_slice 22 (.tmp 38) none (some (.tmp 39)) rfl rfl rfl rfl (cut_toN HKC.out.1 HHO9.out.2.1 V) ?_
         exact hK _ _ ⟨true, true, true, l3, l4, l5, l6, l7, l8, l9, l10, l11, l12, l13, l14, g, v1, v2, v3, rfl, rfl, HF⟩
        ·
         obtain rfl : l3 = false := (AnyOrder.mem_ready hi).2.1
         obtain rfl : l2 = true := AnyOrder.dep (q := 0) hi rfl rfl rfl
         clear hi
         simp only [sel_true, selv_true] at hK ⊢
         obtain ⟨rfl, rfl, rfl⟩ := HF.out.no (.inl rfl)
         refine AnyOrder.wpOp_go rfl (by rfl) ?_
         refine op_append_node V9.drew.heap.size rfl (.const (.slice none 0 0)) (.tmp 40) rfl (.slice none 0 0) [] (out.take k) Ao k co rfl rfl (Kd.R_nil _ _ _ _ _) (C_to (Kd.C_below HHO9.out.2.2 HF.out.below) HHO9.out.1 HKC.out.1) HF.out.below.size (by have h1 := HKC.out.1; have h2 := HKC.out.2; simp; omega) ?_
         intro u1 V1 hr1 hg1 _
         have hb1 := grown_nil hg1
         exact hK _ _ ⟨l0, l1, true, true, l4, l5, l6, l7, l8, false, l10, l11, l12, false, false, g, u1, v2, v3, rfl, rfl, ⟨⟨fun h => (by cases h), fun h => (by cases h), fun h => (by cases h), below_more HF.out.below hb1, fun _ _ => hr1, fun h _ => blk_keep (HF.out.bx h rfl) hb1, fun h _ => (by cases h), fun h => (by cases h)⟩⟩⟩
        ·
         obtain rfl : l4 = false := (AnyOrder.mem_ready hi).2.1
         clear hi
         refine AnyOrder.wpOp_go rfl (by rfl) ?_
         go_wp2_with fail
         exact ⟨l0, l1, l2, l3, true, l5, l6, l7, l8, l9, l10, l11, l12, l13, l14, g, v1, v2, v3, rfl, rfl, HF⟩
        ·
         obtain rfl : l5 = false := (AnyOrder.mem_ready hi).2.1
         clear hi
         refine AnyOrder.wpOp_go rfl (by rfl) ?_
         go_wp2_with fail
         exact ⟨l0, l1, l2, l3, l4, true, l6, l7, l8, l9, l10, l11, l12, l13, l14, g, v1, v2, v3, rfl, rfl, HF⟩
        ·
         obtain rfl : l6 = false := (AnyOrder.mem_ready hi).2.1
         obtain rfl : l4 = true := AnyOrder.dep (q := 0) hi rfl rfl rfl
         obtain rfl : l5 = true := AnyOrder.dep (q := 1) hi rfl rfl rfl
         clear hi
         simp only [sel_true, selv_true] at hK ⊢
         have hkk := HXI.out.1
         have hkl2 := HXI.out.2
         refine AnyOrder.wpOp_go rfl (by rfl) ?_
         go_wp2_with fail
         exact ⟨l0, l1, l2, l3, true, true, true, l7, l8, l9, l10, l11, l12, l13, l14, g, v1, v2, v3, rfl, rfl, HF⟩
        ·
         obtain rfl : l7 = false := (AnyOrder.mem_ready hi).2.1
         obtain rfl : l6 = true := AnyOrder.dep (q := 0) hi rfl rfl rfl
         clear hi
         simp only [sel_true, selv_true] at hK ⊢
         obtain ⟨g0, g1, g2, g3, g4, g5⟩ := HG.out
         have g0 := pw_cell_below HF.out.below g0
         have g1 := pw_cell_below HF.out.below g1
         have g2 := pw_cell_below HF.out.below g2
         have g3 := pw_cell_below HF.out.below g3
         have g4 := pw_cell_below HF.out.below g4
         have g5 := pw_cell_below HF.out.below g5
         refine AnyOrder.wpOp_go rfl (by rfl) ?_
         go_wp2_with fail
         exact ⟨l0, l1, l2, l3, l4, l5, true, true, l8, l9, l10, l11, l12, l13, l14, g, v1, v2, v3, rfl, rfl, HF⟩
        ·
         obtain rfl : l8 = false := (AnyOrder.mem_ready hi).2.1
         obtain rfl : l7 = true := AnyOrder.dep (q := 0) hi rfl rfl rfl
         clear hi
         simp only [sel_true, selv_true] at hK ⊢
         obtain ⟨rfl, rfl, rfl⟩ := HF.out.no (.inr rfl)
         have hb1 := (Gr.alloc V (boxN x)).below
         refine AnyOrder.wpOp_go rfl (by rfl) ?_
         go_wp2_with fail
         exact ⟨l0, l1, l2, l3, l4, l5, l6, true, true, false, l10, l11, l12, false, false, V.heap.size, v1, v2, v3, rfl, rfl, ⟨⟨fun h => (by cases h), fun h => (by cases h), fun h => (by cases h), below_more HF.out.below hb1, fun h _ => RN.below' (HF.out.r1 h rfl) hb1, fun _ _ => blk_new _ _, fun h _ => (by cases h), fun h => (by cases h)⟩⟩⟩
        ·
         obtain rfl : l9 = false := (AnyOrder.mem_ready hi).2.1
         obtain rfl : l3 = true := AnyOrder.dep (q := 0) hi rfl rfl rfl
         obtain rfl : l8 = true := AnyOrder.dep (q := 1) hi rfl rfl rfl
         clear hi
         simp only [sel_true, selv_true] at hK ⊢
         obtain rfl : l13 = false := by cases l13 with | false => rfl | true => cases HF.out.ord13 rfl
         obtain rfl : l14 = false := by cases l14 with | false => rfl | true => cases (HF.out.ord14 rfl).1
         have hr1 := HF.out.r1 rfl rfl
         refine AnyOrder.wpOp_go rfl (by rfl) ?_
         refine op_append_node V9.drew.heap.size rfl (.tmp 41) (.tmp 46) rfl v1 (out.take k) [x] (some ⟨g, 0, none⟩) 1 1 rfl rfl hr1 (boxN_C (HF.out.bx rfl rfl)) HF.out.below.size (by have h1 := HKC.out.1; have h2 := HKC.out.2; rw [List.length_take]; omega) ?_
         intro u2 V2 hr2 hg2 _
         exact hK _ _ ⟨l0, l1, l2, true, l4, l5, l6, l7, true, true, l10, l11, l12, false, false, g, v1, u2, v3, rfl, rfl, ⟨⟨fun _ => ⟨rfl, rfl⟩, fun h => (by cases h), fun h => (by cases h), grown_below HF.out.below hr1 hg2, fun _ h => (by cases h), fun _ h => (by cases h), fun _ _ => hr2, fun h => (by cases h)⟩⟩⟩
        ·
         obtain rfl : l10 = false := (AnyOrder.mem_ready hi).2.1
         clear hi
         obtain rfl : l14 = false := by cases l14 with | false => rfl | true => cases (HF.out.ord14 rfl).2.2
         (try simp only [sel_false, selv_false] at hK ⊢)
         refine AnyOrder.wpOp_go rfl (by rfl) ?_
         go_wp2_with fail
         exact ⟨l0, l1, l2, l3, l4, l5, l6, l7, l8, l9, true, l11, l12, l13, false, g, v1, v2, v3, rfl, rfl, ⟨⟨HF.out.ord9, HF.out.ord13, fun h => (by cases h), HF.out.below, HF.out.r1, HF.out.bx, HF.out.r2, HF.out.r3⟩⟩⟩
        ·
         obtain rfl : l11 = false := (AnyOrder.mem_ready hi).2.1
         clear hi
         refine AnyOrder.wpOp_go rfl (by rfl) ?_
         go_wp2_with fail
         exact ⟨l0, l1, l2, l3, l4, l5, l6, l7, l8, l9, l10, true, l12, l13, l14, g, v1, v2, v3, rfl, rfl, HF⟩
        ·
         obtain rfl : l12 = false := (AnyOrder.mem_ready hi).2.1
         obtain rfl : l10 = true := AnyOrder.dep (q := 0) hi rfl rfl rfl
         obtain rfl : l11 = true := AnyOrder.dep (q := 1) hi rfl rfl rfl
         clear hi
         simp only [sel_true, selv_true] at hK ⊢
         refine AnyOrder.wpOp_go rfl (by rfl) ?_
         refine op_slice 22 (.tmp 48) (some (.tmp 49)) none rfl rfl rfl rfl (HCF.out V) ?_
         exact hK _ _ ⟨l0, l1, l2, l3, l4, l5, l6, l7, l8, l9, true, true, true, l13, l14, g, v1, v2, v3, rfl, rfl, HF⟩
        ·
         obtain rfl : l13 = false := (AnyOrder.mem_ready hi).2.1
         obtain rfl : l9 = true := AnyOrder.dep (q := 0) hi rfl rfl rfl
         obtain rfl : l12 = true := AnyOrder.dep (q := 1) hi rfl rfl rfl
         clear hi
         simp only [sel_true, selv_true] at hK ⊢
         obtain rfl : l14 = false := by cases l14 with | false => rfl | true => cases (HF.out.ord14 rfl).1
         have hr2 := HF.out.r2 rfl rfl
         refine AnyOrder.wpOp_go rfl (by rfl) ?_
         refine op_append_node V9.drew.heap.size rfl (.tmp 47) (.tmp 50) rfl v2 (out.take k ++ [x]) (out.drop k) Ac m3 q3 rfl rfl hr2 (Kd.C_below HCD.out HF.out.below) HF.out.below.size (by have h1 := HKC.out.1; have h2 := HKC.out.2; have h3 := Hm3.out; rw [List.length_append, List.length_take, List.length_singleton]; omega) ?_
         intro u3 V3 hr3 hg3 _
         exact hK _ _ ⟨l0, l1, l2, l3, l4, l5, l6, l7, l8, true, l10, l11, true, true, false, g, v1, v2, u3, rfl, rfl, ⟨⟨HF.out.ord9, fun _ => rfl, fun h => (by cases h), grown_below HF.out.below hr2 hg3, fun _ h => (by cases h), fun _ h => (by cases h), fun _ h => (by cases h), fun _ => by rw [HCUT.out]; exact hr3⟩⟩⟩
        ·
         obtain rfl : l14 = false := (AnyOrder.mem_ready hi).2.1
         obtain rfl : l13 = true := AnyOrder.dep (q := 0) hi rfl rfl rfl
         obtain rfl : l0 = true := AnyOrder.dep (q := 2) hi rfl rfl rfl
         obtain rfl : l1 = true := AnyOrder.dep (q := 3) hi rfl rfl rfl
         obtain rfl : l2 = true := AnyOrder.dep (q := 4) hi rfl rfl rfl
         obtain rfl : l3 = true := AnyOrder.dep (q := 5) hi rfl rfl rfl
         obtain rfl : l4 = true := AnyOrder.dep (q := 6) hi rfl rfl rfl
         obtain rfl : l5 = true := AnyOrder.dep (q := 7) hi rfl rfl rfl
         obtain rfl : l6 = true := AnyOrder.dep (q := 8) hi rfl rfl rfl
         obtain rfl : l7 = true := AnyOrder.dep (q := 9) hi rfl rfl rfl
         obtain rfl : l8 = true := AnyOrder.dep (q := 10) hi rfl rfl rfl
         obtain rfl : l9 = true := AnyOrder.dep (q := 11) hi rfl rfl rfl
         obtain rfl : l10 = true := AnyOrder.dep (q := 12) hi rfl rfl rfl
         obtain rfl : l11 = true := AnyOrder.dep (q := 13) hi rfl rfl rfl
         obtain rfl : l12 = true := AnyOrder.dep (q := 14) hi rfl rfl rfl
         clear hi
         simp only [sel_true, selv_true] at hK ⊢
         refine AnyOrder.wpOp_go rfl (by rfl) ?_
         go_wp2_with fail
         exact ⟨true, true, true, true, true, true, true, true, true, true, true, true, true, true, true, g, v1, v2, v3, rfl, rfl, ⟨⟨HF.out.ord9, HF.out.ord13, fun _ => ⟨rfl, rfl, rfl⟩, HF.out.below, HF.out.r1, HF.out.bx, HF.out.r2, HF.out.r3⟩⟩⟩
       case last =>
        rintro L ac V ⟨l0, l1, l2, l3, l4, l5, l6, l7, l8, l9, l10, l11, l12, l13, l14, g, v1, v2, v3, rfl, rfl, HF⟩ hr
        have hall := AnyOrder.all_listed rfl (by kernel_rfl) hr
        clear hr
        obtain rfl : l0 = true := hall 0 (by decide)
        obtain rfl : l1 = true := hall 1 (by decide)
        obtain rfl : l2 = true := hall 2 (by decide)
        obtain rfl : l3 = true := hall 3 (by decide)
        obtain rfl : l4 = true := hall 4 (by decide)
        obtain rfl : l5 = true := hall 5 (by decide)
        obtain rfl : l6 = true := hall 6 (by decide)
        obtain rfl : l7 = true := hall 7 (by decide)
        obtain rfl : l8 = true := hall 8 (by decide)
        obtain rfl : l9 = true := hall 9 (by decide)
        obtain rfl : l10 = true := hall 10 (by decide)
        obtain rfl : l11 = true := hall 11 (by decide)
        obtain rfl : l12 = true := hall 12 (by decide)
        obtain rfl : l13 = true := hall 13 (by decide)
        obtain rfl : l14 = true := hall 14 (by decide)
        clear hall
        simp only [sel_true, selv_true]
        have HR3 := Aside0.mk (HF.out.r3 rfl)
        have HB3 := Aside0.mk (below_more HB9.out HF.out.below)
        have HK3 := Aside0.mk (blk_keep (blk_keep HHK.out (below_drew1 HHF.out)) HF.out.below)
        have hn4 := HXI.out.2
        obtain ⟨A3, c3, rfl⟩ := RN.slice HR3.out
        obtain ⟨n3, hn3⟩ : ∃ n3, (insB x out).length = n3 := ⟨_, rfl⟩
        rw [hn3] at HR3 ⊢
        clear HF hn3
        go_wp2
        go_roundw
        case rel => exact ⟨i' + 1, A3, n3, c3, by omega, by go_num, rfl, ⟨by rw [HST.out]; exact Kd.R_lower HR3.out HB9.out.size⟩, HK3, HB3⟩
        case measure => simp [intOf] <;> omega
   ·
    have hne : (x.f1.f0 == d.f0 && (x.f1.f1 == d.f1)) = false := by
     rw [Bool.eq_false_iff]
     intro h
     simp only [Bool.and_eq_true, beq_iff_eq] at h
     exact hxd (Dot.ext_iff'.2 h)
    rw [if_neg hxd] at HST
    clear hxd
    go_wp2
    go_quiet (fail)
    have hd := (Gr.drawn (w := wr) ⟨nq, rfl⟩).below
    go_wp2
    go_roundw
    case rel => exact ⟨i' + 1, Ao, no, co, by omega, by go_num, rfl, ⟨by rw [HST.out]; exact RN.below' HO.out hd⟩, ⟨blk_keep HK.out hd⟩, ⟨below_more HB.out hd⟩⟩
    case measure => simp [intOf] <;> omega
  ·
   obtain rfl : i' = n := by omega
   have hltb : decide ((i' : Int) < (i' : Int)) = false := decide_eq_false (by omega)
   have hall : l0.take i' = l0 := List.take_of_length_le (Nat.le_of_eq Hn.out)
   rw [hall] at HO
   go_wp2
   go_ret
   exact ⟨_, rfl, HO.out, HB.out⟩
end Go.Proofs.YtjlpaagnajmogaaGreat.PWalk
end
section
namespace Go.Proofs.YtjlpaagnajmogaaGreat.PWalk
open Go.RowKit Go.Proofs.YtjlpaagnajmogaaGreatW.PrintWords Go.Proofs.YtjlpaagnajmogaaGreatW.PrintLast Go.Proofs.YtjlpaagnajmogaaGreatW.PrintMore
set_option linter.unusedVariables false
set_option linter.unusedSimpArgs false
open Go.Shelf
attribute [local go_sem] Oper.semAt_some
theorem named_is (d : Dot) : redpencilref11_Named.f d.f0 d.f1 = some (decide (dotOk d = true ∨ dotRoot d = true)) := by
 unfold redpencilref11_Named.f
 rw [refDot_is, refRoot_is]
 cases dotOk d <;> cases dotRoot d <;> rfl
theorem children_bad {l : List Node} {d : Dot} (hl : l.length ≤ 40) (h : ¬ (storeOk l = true ∧ (dotOk d = true ∨ dotRoot d = true))) : redpencillaw11_children.f 1000 l d.f0 d.f1 [] 2 = some true := by
 unfold redpencillaw11_children.f walk_Children.f
 rw [if_pos (by omega), if_neg h]
 simp only [Option.bind_some]
 rw [refEqual_is [] [] (by simp) 1000 (by simp)]; rfl
theorem app_row {ops : Array Oper} {Q : Exit → Act → World → Prop} {o : Oper} {rest : List Oper} {a : Act} {W : World} (hgd : o.guard = none) (x : Operand)
  (ho : o.op = .call { callee := .builtin .append, args := #[.const (.slice none 0 0), x], argTypes := #[22, 22] }) (A : Option Addr) (l0 : List Node) (n c : Nat) (hn : l0.length = n) (hx : a.eval x = .slice A n c)
  (hr : Kd.C k35 W A n l0) (hl : n ≤ 1000000)
  (h : ∀ v1 w1, RN w1 W.heap.size v1 l0 → Below W.heap.size W w1 → wpList Tryz.prog ops Q rest (a.put o.dst v1) w1) : wpList Tryz.prog ops Q (o :: rest) a W := by
 subst hn
 refine Kd.R_append_rows k35 (w0 := W) W.heap.size hgd (.const (.slice none 0 0)) x 22 35 (.agg #[(.int .i64 0), (.int .i64 0), (.int .i64 0), (.int .i64 0), (.int .i64 0), (.int .i32 0)]) 48 ho Tryz.underlying22 info35 rfl (by decide) (by decide) (.slice none 0 0) [] l0 A l0.length c (fun _ => True) (fun _ => False) rfl hx (Kd.R_nil _ _ _ _ _) hr (fun x cs h => (by rw [k35_open h]; exact k35_mkM _ _ _ x)) (fun _ hk => hk.elim) (fun _ _ => trivial) (Below.refl _ _) (Nat.le_refl _) (by simp only [List.length_nil]; omega) ?_
 intro v1 w1 ho hb _ _
 exact h v1 w1 ho hb
set_option maxHeartbeats 4000000 in
set_option maxRecDepth 100000 in
theorem WalkChildren.walk (A0 : Option Addr) (c0 : Nat) (ll : List Node) (w : World) (hr0 : Kd.C k35 w A0 ll.length ll) (hc0 : ll.length ≤ c0) (hi : ∀ x ∈ ll, runeIn x.f3) (d : Dot) :
  Calls Tryz.prog 3 #[.slice A0 ll.length c0, vDot d] w fun e w' => e = .returned (.bool true) ∧ Below w.heap.size w w' := by
 have HR := Aside0.mk hr0
 have HC := Aside0.mk hc0
 have HX := Aside0.mk (blk_new w (dotC d))
 have HB := Aside0.mk (Gr.alloc w (dotC d)).below
 obtain ⟨n, Hn⟩ : ∃ n, Aside0 (ll.length = n) := ⟨_, ⟨rfl⟩⟩
 by_cases h40 : ll.length > 40
 ·
  have hb2 : decide ((40 : Int) < (n : Int)) = true := decide_eq_true (by have := Hn.out; omega)
  have hb3 : decide ((n : Int) > 40) = true := decide_eq_true (by have := Hn.out; omega)
  rw [Hn.out]
  clear hr0 hc0 hi h40
  go_enter Tryz.func3, Tryz.ntmps3
  go_wp2_with fail
  refine (known_walk _).mono ?_
  rintro e W3 ⟨rfl, hd⟩
  go_wp2
  go_ret
  exact ⟨rfl, below_more HB.out hd⟩
 have HL : Aside0 (ll.length ≤ 40) := ⟨by omega⟩
 have hb2 : decide ((40 : Int) < (n : Int)) = false := decide_eq_false (by have := Hn.out; omega)
 have hb3 : decide ((n : Int) > 40) = false := decide_eq_false (by have := Hn.out; omega)
 obtain ⟨b, Hb⟩ : ∃ b, Aside0 (storeOk ll = b) := ⟨_, ⟨rfl⟩⟩
 have hval := redpencilref10_Valid.calls 1000 A0 c0 ll b (w.alloc (dotC d)) (Kd.C_below hr0 HB.out) hc0 (by rw [refValid_is ll (by omega) hi 1000 (by omega), Hb.out])
 have HBAD : Aside0 (∀ W, Below w.heap.size w W → ¬ (storeOk ll = true ∧ (dotOk d = true ∨ dotRoot d = true)) → Calls Tryz.prog 16 #[.slice A0 n c0, vDot d, .slice none 0 0, .int .i64 2] W fun e W' => e = .returned (.bool true) ∧ Below W.heap.size W W') := ⟨fun W hb h => by rw [← Hn.out]; exact redpencillaw11_children.calls 1000 A0 c0 ll d.f0 d.f1 none 0 [] 2 true W (Kd.C_below HR.out hb) HC.out ⟨rfl, by decide, fun h => absurd h (by decide)⟩ (Nat.le_refl _) (children_bad HL.out h)⟩
 rw [Hn.out] at hval ⊢
 have HVAL := Aside0.mk hval
 clear hr0 hc0 hi h40 hval
 go_enter Tryz.func3, Tryz.ntmps3
 go_wp2_with fail
 refine HVAL.out.mono ?_
 rintro e V1 ⟨rfl, hb⟩
 have HX := Aside0.mk (blk_keep HX.out hb)
 have HB := Aside0.mk (below_more HB.out hb)
 clear hb HVAL
 have x0 : V1.cell? ⟨w.heap.size, 0, none⟩ = _ := (blk_cell HX.out 0).trans rfl
 have x1 : V1.cell? ⟨w.heap.size, 1, none⟩ = _ := (blk_cell HX.out 1).trans rfl
 cases b with
 | false =>
  go_wp2_with fail
  refine (HBAD.out V1 HB.out (fun h => by rw [Hb.out] at h; cases h.1)).mono ?_
  rintro e V2 ⟨rfl, hb⟩
  have HB := Aside0.mk (below_more HB.out hb)
  clear hb x0 x1
  go_wp2_with fail
  refine (known_walk _).mono ?_
  rintro e W3 ⟨rfl, hd⟩
  go_wp2
  go_ret
  exact ⟨rfl, below_more HB.out hd⟩
 | true =>
  obtain ⟨b2, Hb2⟩ : ∃ b, Aside0 (decide (dotOk d = true ∨ dotRoot d = true) = b) := ⟨_, ⟨rfl⟩⟩
  go_wp2_with fail
  refine (redpencilref11_Named.calls d.f0 d.f1 b2 V1 (by rw [named_is, Hb2.out])).mono ?_
  rintro e V2 ⟨rfl, hb⟩
  have HX := Aside0.mk (blk_keep HX.out hb)
  have HB := Aside0.mk (below_more HB.out hb)
  clear hb x0 x1
  have x0 : V2.cell? ⟨w.heap.size, 0, none⟩ = _ := (blk_cell HX.out 0).trans rfl
  have x1 : V2.cell? ⟨w.heap.size, 1, none⟩ = _ := (blk_cell HX.out 1).trans rfl
  cases b2 with
  | false =>
   go_wp2_with fail
   refine (HBAD.out V2 HB.out (fun h => absurd h.2 (of_decide_eq_false Hb2.out))).mono ?_
   rintro e V3 ⟨rfl, hb⟩
   have HB := Aside0.mk (below_more HB.out hb)
   clear hb x0 x1
   go_wp2_with fail
   refine (known_walk _).mono ?_
   rintro e W3 ⟨rfl, hd⟩
   go_wp2
   go_ret
   exact ⟨rfl, below_more HB.out hd⟩
  | true =>
   have HND : Aside0 (dotOk d = true ∨ dotRoot d = true) := ⟨of_decide_eq_true Hb2.out⟩
   have HRN : Aside0 (Kd.C k35 V2 A0 n ll) := ⟨by have := Kd.C_below HR.out HB.out; rwa [Hn.out] at this⟩
   have HN6 : Aside0 (n ≤ 1000000) := ⟨by have h1 := Hn.out; have h2 := HL.out; omega⟩
   go_wp2_with (at_builtin; refine app_row rfl (.tmp 27) rfl A0 ll n c0 Hn.out rfl HRN.out HN6.out ?_; intro v5 W5 hr5 hb5; obtain ⟨A5, c5, rfl⟩ := RN.slice hr5; rw [Hn.out] at hr5 ⊢; have hx5 := blk_keep HX.out hb5; have y0 : W5.cell? ⟨w.heap.size, 0, none⟩ = _ := (blk_cell hx5 0).trans rfl; have y1 : W5.cell? ⟨w.heap.size, 1, none⟩ = _ := (blk_cell hx5 1).trans rfl)
   have HB5 := Aside0.mk (below_more HB.out hb5)
   have HO5 : Aside0 (n ≤ c5 ∧ Kd.C k35 W5 A5 n ll) := ⟨(RN.C hr5).2⟩
   have HX := Aside0.mk (blk_keep HX.out hb5)
   have HB := Aside0.mk (below_more HB.out hb5)
   clear hr5 hb5 x0 x1 hx5
   have hch := walk_Children.calls A5 c5 ll d.f0 d.f1 (kids ll d) 0 W5 (by rw [Hn.out]; exact HO5.out.2) (by rw [Hn.out]; exact HO5.out.1) (by unfold walk_Children.f; rw [if_pos (by have := HL.out; omega), if_pos ⟨Hb.out, HND.out⟩])
   rw [Hn.out] at hch
   have HCH := Aside0.mk hch
   clear hch
   refine HCH.out.mono ?_
   rintro e W6 ⟨v6, rfl, hr6, hb6⟩
   obtain ⟨A6, c6, rfl⟩ := RN.slice hr6
   obtain ⟨m, Hm⟩ : ∃ m, Aside0 ((kids ll d).length = m) := ⟨_, ⟨rfl⟩⟩
   rw [Hm.out] at hr6 ⊢
   have HM6 : Aside0 (m ≤ 40) := ⟨by have h1 := kids_le ll d; have h2 := HL.out; have h3 := Hm.out; omega⟩
   have HR6 := Aside0.mk hr6
   have HB6 := Aside0.mk hb6
   have HX := Aside0.mk (blk_keep HX.out hb6)
   have HB := Aside0.mk (below_more HB.out hb6)
   clear hr6 hb6 y0 y1 HCH
   have x0 : W6.cell? ⟨w.heap.size, 0, none⟩ = _ := (blk_cell HX.out 0).trans rfl
   have x1 : W6.cell? ⟨w.heap.size, 1, none⟩ = _ := (blk_cell HX.out 1).trans rfl
   have hrc := redpencilref11_Children.calls A0 c0 ll d.f0 d.f1 (kids ll d) W6 (Kd.C_below HR.out HB.out) HC.out (by unfold redpencilref11_Children.f; rw [if_pos (by have := HL.out; omega)])
   rw [Hn.out] at hrc
   have HRC := Aside0.mk hrc
   clear hrc
   go_wp2_with fail
   refine HRC.out.mono ?_
   rintro e W7 ⟨v7, rfl, hr7, hb7⟩
   obtain ⟨A7, c7, rfl⟩ := RN.slice hr7
   rw [Hm.out] at hr7 ⊢
   have HR7 := Aside0.mk (RN.C hr7).2
   have HR6 := Aside0.mk (RN.below' HR6.out hb7)
   have HB6 := Aside0.mk (below_more HB6.out hb7)
   have HX := Aside0.mk (blk_keep HX.out hb7)
   have HB := Aside0.mk (below_more HB.out hb7)
   clear hr7 hb7 x0 x1 HRC
   have heq := redpencilref10_Equal.calls 1000 A6 c6 (kids ll d) A7 c7 (kids ll d) true W7 (by rw [Hm.out]; exact (RN.C HR6.out).2.2) (by rw [Hm.out]; exact (RN.C HR6.out).2.1) (by rw [Hm.out]; exact HR7.out.2) (by rw [Hm.out]; exact HR7.out.1) (by rw [refEqual_is _ _ (by have h1 := Hm.out; have h2 := HM6.out; omega) 1000 (by have h1 := Hm.out; have h2 := HM6.out; omega)]; simp)
   rw [Hm.out] at heq
   have HEQ := Aside0.mk heq
   clear heq
   go_wp2_with fail
   refine HEQ.out.mono ?_
   rintro e W8 ⟨rfl, hdr⟩
   have hb8 := hdr.below
   have HR6 := Aside0.mk (RN.below' HR6.out hb8)
   have HB6 := Aside0.mk (below_more HB6.out hb8)
   have HB := Aside0.mk (below_more HB.out hb8)
   have HO := Aside0.mk (below_more (below_more (Below.refl _ W5) (Below.refl _ W5)) HB6.out)
   clear hb8 hdr HEQ
   have hm4 := HM6.out
   go_wp2
   go_loopw [47] (fun i wr => ∃ (k : Nat) (ys : List Node), k ≤ m ∧ i = .int .i64 k ∧ Aside0 (ys.length = m ∧ RN wr W5.heap.size (.slice A6 m c6) ys) ∧ Aside0 (Below W5.heap.size W5 wr)) (fun i _ => m - (intOf i).toNat)
   case atStart => exact ⟨0, kids ll d, Nat.zero_le _, rfl, ⟨⟨Hm.out, HR6.out⟩⟩, HB6⟩
   case round =>
    obtain ⟨k, ys, hk, rfl, HY, HBW⟩ := hrel
    by_cases hlt : k < m
    ·
     have hltb : decide ((k : Int) < (m : Int)) = true := decide_eq_true (by omega)
     obtain ⟨y, Hy⟩ : ∃ y, Aside0 (ys[k]? = some y) := ⟨_, ⟨List.getElem?_eq_getElem (by rw [HY.out.1]; exact hlt)⟩⟩
     obtain ⟨g, cap, hA, hgw, _⟩ := Kd.R_form HY.out.2 (by rw [HY.out.1]; omega)
     rw [HY.out.1] at hA
     cases hA
     have HG := Aside0.mk hgw
     clear hgw
     obtain ⟨hc4, hf4⟩ := R_cell HY.out.2 Hy.out (j := 4) (by decide)
     replace hc4 : wr.cell? ⟨g, k * 6 + 4, none⟩ = some (.int .i64 y.f2) := hc4
     have HS := Aside0.mk (R_setCell HY.out.2 Hy.out (j := 4) (by decide) (v := .int .i64 (wrap64 (y.f2 + 1))) (y := { y with f2 := wrap64 (y.f2 + 1) }) rfl)
     have HB2 := Aside0.mk (below_setCell HBW.out HG.out (k * 6 + 4) (.int .i64 (wrap64 (y.f2 + 1))))
     have HLY := Aside0.mk HY.out.1
     clear HY HBW
     go_wp2
     go_roundw
     case rel => exact ⟨k + 1, ys.set k { y with f2 := wrap64 (y.f2 + 1) }, by omega, by go_num, ⟨⟨by rw [List.length_set]; exact HLY.out, HS.out⟩⟩, HB2⟩
     case measure => simp [intOf] <;> omega
    ·
     obtain rfl : k = m := by omega
     have hltb : decide ((k : Int) < (k : Int)) = false := decide_eq_false (by omega)
     have HBB := Aside0.mk (below_more (below_more HB5.out (Below.refl _ W5)) HBW.out)
     have heq := redpencilref10_Equal.calls 1000 A5 c5 ll A0 c0 ll true wr (by rw [Hn.out]; exact Kd.C_below HO5.out.2 HBW.out) (by rw [Hn.out]; exact HO5.out.1) (Kd.C_below HR.out HBB.out) HC.out (by rw [refEqual_is _ _ (by have h2 := HL.out; omega) 1000 (by have h2 := HL.out; omega)]; simp)
     rw [Hn.out] at heq
     have HEQ := Aside0.mk heq
     clear heq
     go_wp2_with fail
     refine HEQ.out.mono ?_
     rintro e W9 ⟨rfl, hdr⟩
     have HBE := Aside0.mk (below_more HBB.out hdr.below)
     clear hdr
     go_wp2_with fail
     refine (known_walk _).mono ?_
     rintro e W3 ⟨rfl, hd⟩
     go_wp2
     go_ret
     exact ⟨rfl, below_more HBE.out hd⟩
end Go.Proofs.YtjlpaagnajmogaaGreat.PWalk
end
section
namespace Go.Proofs.YtjlpaagnajmogaaGreat.walkChildren
open Go.ChangeShapes Go.WideShapes Go.ChangeAt Go.RowKit
open Go.ChangeMaps (open_string shut_string)
open Go.Proofs.YtjlpaagnajmogaaGreatW.PrintWords
set_option linter.unusedVariables false
theorem six_of {α : Type} {cs : List α} (h : cs.length = 6) : ∃ c0 c1 c2 c3 c4 c5, cs = [c0, c1, c2, c3, c4, c5] := by
 match cs, h with
 | [a, b, c, d, e, f], _ => exact ⟨a, b, c, d, e, f, rfl⟩
theorem open_node {H : Type} {enc : TypeId × Value → H} {W : World} {base : Nat} {sp : Nat → Bool} {held : Bool} {fuel : Nat} {cs : List Value} {x : DataW H × List MemPlace} (h : DataW.trod enc Tryz.prog W base sp held fuel 35 cs = some x) :
  ∃ n : PWalk.Node, cs = PWalk.nodeCells n ∧ PWalk.runeIn n.f3 := by
 have e37 : Tryz.prog.cellsOf 35 = 6 := by kernel_rfl
 have e35 : Tryz.prog.cellsOf 24 = 2 := by kernel_rfl
 have e3 : Tryz.prog.cellsOf 3 = 1 := by kernel_rfl
 have e21 : Tryz.prog.cellsOf 21 = 1 := by kernel_rfl
 obtain ⟨y0, y1, y2, y3, n, rfl, hl, h0, h1, h2, h3⟩ := Go.Joins.trod_struct4 Tryz.underlying35 h
 rw [e37] at hl
 obtain ⟨c0, c1, c2, c3, c4, c5, rfl⟩ := six_of hl
 simp only [e35, e3, e21, List.drop_zero, List.drop_succ_cons, List.take_succ_cons, List.take_zero] at h0 h1 h2 h3
 obtain ⟨_, _, _, _, _, g0, g1⟩ := trod_struct2 Tryz.underlying24 h0
 obtain ⟨_, _, _, _, _, g2, g3⟩ := trod_struct2 Tryz.underlying24 h1
 simp only [e3, List.drop_zero, List.drop_succ_cons, List.take_succ_cons, List.take_zero] at g0 g1 g2 g3
 obtain ⟨k0, i0, _, _⟩ := DataW.trod_int Tryz.underlying3 g0
 obtain ⟨k1, i1, _, _⟩ := DataW.trod_int Tryz.underlying3 g1
 obtain ⟨k2, i2, _, _⟩ := DataW.trod_int Tryz.underlying3 g2
 obtain ⟨k3, i3, _, _⟩ := DataW.trod_int Tryz.underlying3 g3
 obtain ⟨k4, i4, _, _⟩ := DataW.trod_int Tryz.underlying3 h2
 obtain ⟨k5, i5, _, hw⟩ := DataW.trod_int Tryz.underlying21 h3
 simp only [List.cons.injEq, and_true] at i0 i1 i2 i3 i4 i5
 subst i0 i1 i2 i3 i4 i5
 refine ⟨⟨⟨k0, k1⟩, ⟨k2, k3⟩, k4, k5⟩, rfl, ?_⟩
 have hw2 : -2147483648 ≤ k5 ∧ k5 ≤ 2147483647 := by simpa [Lit.wf, IntKind.min, IntKind.max, IntKind.signed, IntKind.bits] using hw
 exact ⟨by show _ ≤ k5; omega, by show k5 ≤ _; omega⟩
/-- A []api.Node that came in, nil or not. -/
theorem open_nodes {H : Type} {enc : TypeId × Value → H} {W : World} {A : Option Addr} {len cap : Nat} {x : DataW H × List MemPlace} {fuel : Nat} (h : DataW.trod enc Tryz.prog W 0 (fun _ => true) true fuel 22 [.slice A len cap] = some x) :
  ∃ xs : List PWalk.Node, xs.length = len ∧ Kd.C PWalk.k35 W A len xs ∧ len ≤ cap ∧ ∀ n ∈ xs, PWalk.runeIn n.f3 := by
 have e37 : Tryz.prog.cellsOf 35 = 6 := by kernel_rfl
 rcases Go.Deep.open_slice Tryz.underlying22 h with ⟨hcs, _⟩ | ⟨a, len', cap', m, n, D, Pl, hcs, _, hl, hm, hmm, _, hx⟩
 ·
  simp at hcs
  obtain ⟨rfl, rfl, rfl⟩ := hcs
  exact ⟨[], rfl, ⟨rfl, by omega, fun hp => absurd hp (by omega)⟩, Nat.le_refl _, fun n hn => by cases hn⟩
 ·
  simp at hcs
  obtain ⟨rfl, rfl, rfl⟩ := hcs
  simp only [if_true] at hmm
  subst hmm
  rw [e37] at hx
  haveI : Inhabited PWalk.Node := ⟨⟨⟨0, 0⟩, ⟨0, 0⟩, 0, 0⟩⟩
  obtain ⟨N, hN⟩ := Go.Deep.choose_lt (α := PWalk.Node) (n := len) (p := fun i nd => PWalk.runeIn nd.f3 ∧ ∀ j u, (PWalk.nodeCells nd)[j]? = some u → W.cell? (a.add (i * 6 + j)) = some u) (fun i hi => by
   obtain ⟨cs', h1, h2⟩ := hx i (by omega)
   obtain ⟨nd, rfl, hr⟩ := open_node h2
   refine ⟨nd, hr, fun j u hu => ?_⟩
   obtain ⟨_, hlen, hc⟩ := World.cells?_some h1
   have hj : j < 6 := (List.getElem?_eq_some_iff.1 hu).1
   rw [← Addr.add_add a (i * 6) j]
   rw [← hu]
   exact hc j (by simpa using hj))
  refine ⟨(List.range len).map N, by simp, ⟨by simp, Nat.le_trans hl hm, fun hp => ⟨a, rfl, fun i nd hi => ?_⟩⟩, hl, fun nd hnd => ?_⟩
  ·
   have hil : i < len := by simpa using (List.getElem?_eq_some_iff.1 hi).1
   have hnd : nd = N i := by simpa [hil] using hi.symm
   subst hnd
   refine ⟨PWalk.nodeCells (N i), rfl, PWalk.k35.K_of_M (PWalk.k35_mkM W 0 (fun _ => True) (N i)), fun j u hu => (hN i hil).2 j u hu⟩
  ·
   obtain ⟨i, hi, rfl⟩ := List.mem_map.1 hnd
   exact (hN i (by simpa using hi)).1
set_option maxRecDepth 100000 in
/-- An api.Dot that came in by value: it is read the same in every world. -/
theorem open_dot {H : Type} {enc : TypeId × Value → H} {W : World} {r : Reach} {b0 base : Nat} {sp : Nat → Bool} {held : Bool} {v : Value} {d : DataW H} {p : List MemPlace} (hv : Value.okWide Tryz.prog W r b0 24 v) (h : DataW.Trod enc Tryz.prog W base sp held 24 v d p) :
  ∃ a : PWalk.Dot, v = .agg #[.int .i64 a.f0, .int .i64 a.f1] ∧ ∀ (W' : World) (base' : Nat) (sp' : Nat → Bool) (held' : Bool), DataW.Trod enc Tryz.prog W' base' sp' held' 24 v d p := by
 obtain ⟨v0, v1, y0, y1, n, rfl, rfl, rfl, h0, h1⟩ := Go.Joins.open_agg2 Tryz.underlying24 (by kernel_rfl) (by kernel_rfl) hv h
 obtain ⟨k0, i0, e0, w0⟩ := DataW.trod_int Tryz.underlying3 h0
 obtain ⟨k1, i1, e1, w1⟩ := DataW.trod_int Tryz.underlying3 h1
 simp only [List.cons.injEq, and_true] at i0 i1
 subst i0 i1 e0 e1
 refine ⟨⟨k0, k1⟩, rfl, fun W' base' sp' held' => ?_⟩
 exact Go.Joins.shut_agg2 Tryz.underlying24 (by kernel_rfl) (by kernel_rfl) (Go.Joins.field_of_Trod (shut_int Tryz.underlying3 w0) rfl) (Go.Joins.field_of_Trod (shut_int Tryz.underlying3 w1) rfl)
theorem own : ownKnob Tryz.prog.godebug = none := by kernel_rfl
theorem laidOut : laidOutB Tryz.prog = true := by kernel_rfl
set_option maxRecDepth 100000 in
set_option maxHeartbeats 2000000 in
theorem lifted (os : Os) (started : os.Started) (H : Type) (enc : TypeId × Value → H) :
  ReturnsInHanded {} Tryz.checked os 3 .any (Rows.walkChildrenSpec.pre6 enc Tryz.prog Tryz.f3 Rows.walkChildrenRow.domain false) (Rows.walkChildrenSpec.post enc Tryz.prog Tryz.f3 false true false false) := by
 refine returnsInHanded_of_change_sized (C := Tryz.checked) own started (by kernel_rfl) Tryz.func3
  (ChangeSpec.witness6 (enc := enc) (C := Tryz.checked) false ⟨#[], #[.slice none 0 0, .agg #[.int .i64 0, .int .i64 0]], []⟩ 8 (by kernel_rfl) (by kernel_rfl) (by kernel_rfl) (by kernel_rfl)) ?_
 intro W base args ds gs before hval0 hW hcnd hsz0 _
 have hval : ∀ (j : Nat) t v, Tryz.f3.params[j]? = some t → args[j]? = some v → Value.okWide Tryz.prog W .any base t v := hval0
 have hW' := hW
 obtain ⟨p, q, hA0, hV, rfl, hfz, hnd⟩ := hW
 have hA : DataW.TrodAll enc Tryz.prog W 0 (fun _ => true) true Tryz.f3.params.toList args.toList ds p := hA0
 rw [Tryz.params3] at hA hval
 obtain ⟨v0, vs0, d0, ds0, p0, q0, hargs, rfl, rfl, h0, r0⟩ := trodAll_cons hA
 obtain ⟨v1, vs1, d1, ds1, p1, q1, rfl, rfl, rfl, h1, r1⟩ := trodAll_cons r0
 obtain ⟨rfl, rfl, rfl⟩ := trodAll_nil r1
 obtain rfl : args = #[v0, v1] := by cases args; simp_all
 obtain ⟨rfl, rfl⟩ := trodVars_none hV
 obtain ⟨A0, len0, cap0, rfl⟩ := okWide_slice Tryz.underlying22 (hval 0 22 v0 rfl rfl)
 have k0 := h0
 have lt0 : ∀ x ∈ p0, x.block < W.heap.size := by obtain ⟨m, hm⟩ := k0; exact DataW.trod_lt m _ _ _ hm
 obtain ⟨f0, hf0⟩ := h0
 obtain ⟨xs0, rfl, hr0, hc0, hi0⟩ := open_nodes hf0
 obtain ⟨a1, rfl, w1⟩ := open_dot (hval 1 24 v1 rfl rfl) h1
 clear hA0 hval0 hsz0
 refine (PWalk.WalkChildren.walk A0 cap0 xs0 W hr0 hc0 hi0 a1).mono fun e W' ⟨he, bel⟩ => ?_
 subst he
 exact ⟨_, rfl, _, _, _, [], _, [], hW', trodAll_mk1 (shut_bool Tryz.underlying4 _), (trodAll_cons_mk (Below.trod laidOut (by kernel_rfl) (of_decide_eq_true (by kernel_rfl)) k0 bel lt0) (trodAll_cons_mk (w1 _ _ _ _) trodAll_mk0)), rfl, bel.frame _, fun h => by cases h⟩
theorem over : Rows.walkChildrenRow.holds Tryz.pinned (OpenSpec.ofChange Rows.walkChildrenSpec) :=
 OpenClaim.holds_of_wide 3 Tryz.f3 rfl rfl rfl rfl rfl rfl rfl ⟨rfl, rfl, rfl, rfl, rfl⟩ rfl rfl rfl rfl rfl (by kernel_rfl) Tryz.func3 (by kernel_rfl)
  (of_decide_eq_true (by kernel_rfl)) (by unfold Func.isWrapper; first | (rw [if_pos (by decide +kernel)]; kernel_rfl) | (rw [if_neg (by decide +kernel)]; exact ⟨rfl, rfl⟩))
  (fun os started H enc _ => lifted os started H enc)
theorem proved : Rows.WalkChildrenSaid := over
#print axioms proved
end Go.Proofs.YtjlpaagnajmogaaGreat.walkChildren
end
