/-
  The law IndexDies: a store in which one more visible node was killed lacks its character, and nothing else changes. Part 9 of 10.
-/
import Derived.Test.YtjlpaagnajmogaaGreatDH
section
namespace Go.Proofs.YtjlpaagnajmogaaGreat.PWalk
open Go.RowKit Go.Proofs.YtjlpaagnajmogaaGreatW.PrintWords Go.Proofs.YtjlpaagnajmogaaGreatW.PrintLast Go.Proofs.YtjlpaagnajmogaaGreatW.PrintMore
set_option linter.unusedVariables false
set_option linter.unusedSimpArgs false
open Go.Shelf
attribute [local go_sem] Oper.semAt_some
def redpencilref11_Children.f (l0 : List Node) (a1_0 a1_1 : Int) : Option (List Node) := if l0.length ≤ 400000 then some (kids l0 ⟨a1_0, a1_1⟩) else none
/-- What has come up in the triple append. -/
structure RcF (W0 : World) (out : List Node) (x : Node) (k : Nat) (l0 l3 l8 l9 l10 l13 l14 : Bool) (g : Nat) (v1 v2 v3 : Value) (V : World) : Prop where
 ord9 : l9 = true → l3 = true ∧ l8 = true
 ord13 : l13 = true → l9 = true
 ord14 : l14 = true → l13 = true ∧ l0 = true ∧ l10 = true
 below : Below W0.heap.size W0 V
 r1 : l3 = true → l9 = false → RN V W0.heap.size v1 (out.take k)
 bx : l8 = true → l9 = false → V.heap[g]? = some (boxN x)
 r2 : l9 = true → l13 = false → RN V W0.heap.size v2 (out.take k ++ [x])
 r3 : l13 = true → RN V W0.heap.size v3 (insB x out)
theorem RcF.no {W0 : World} {out : List Node} {x : Node} {k : Nat} {l0 l3 l8 l9 l10 l13 l14 : Bool} {g : Nat} {v1 v2 v3 : Value} {V : World} (h : RcF W0 out x k l0 l3 l8 l9 l10 l13 l14 g v1 v2 v3 V) (hl : l3 = false ∨ l8 = false) : l9 = false ∧ l13 = false ∧ l14 = false := by
 have h9 : l9 = false := by
  cases l9 with
  | false => rfl
  | true => obtain ⟨rfl, rfl⟩ := h.ord9 rfl; rcases hl with e | e <;> cases e
 have h13 : l13 = false := by
  cases l13 with
  | false => rfl
  | true => have := h.ord13 rfl; rw [h9] at this; cases this
 refine ⟨h9, h13, ?_⟩
 cases l14 with
 | false => rfl
 | true => have := (h.ord14 rfl).1; rw [h13] at this; cases this
def rc7Inv (W0 : World) (ad : Addr) (ado : Addr) (n c0 i' k no co : Nat) (x y : Node) (b1 b2 : Bool) (z1 z2 z3 z4 z8 z9 z10 z11 z12 z13 z14 z15 z16 z17 z18 z19 z20 z21 z22 z23 z24 z25 z26 z27 z28 z29 z30 z31 z32 z33 z34 z35 z36 z37 z38 z39 z40 z41 z42 z43 z44 z45 z46 z47 z48 z49 z50 z51 z52 : Value) (L : Array Bool) (ac : Act) (V : World) : Prop := ∃ (l0 l1 l2 l3 l4 l5 l6 l7 l8 l9 l10 l11 l12 l13 l14 : Bool), L = #[l0, l1, l2, l3, l4, l5, l6, l7, l8, l9, l10, l11, l12, l13, l14] ∧ ac = { tmps := #[.slice (some ad) n c0, z1, z2, z3, z4, .slice (some ado) no co, .int .i64 (i' : Int), .int .i64 (k : Int), z8, z9, z10, z11, z12, z13, z14, z15, z16, z17, z18, z19, z20, selv l0 (.int .i64 (k : Int)) (z21), selv l1 (.slice (some ado) no co) (z22), selv l2 (.int .i64 (no : Int)) (z23), selv l3 (.bool b1) (z24), selv l4 (.bool b1) (z25), selv l5 (.slice (some ado) no co) (z26), selv l6 (.int .i64 (k : Int)) (z27), selv l7 (.pointer (some (ado.add (k * 6)))) (z28), selv l8 (vNode y) (z29), selv l9 (.slice (some ad) n c0) (z30), selv l10 (.int .i64 (i' : Int)) (z31), selv l11 (.pointer (some (ad.add (i' * 6)))) (z32), selv l12 (vNode x) (z33), selv l13 (.bool b2) (z34), selv l14 (.bool b2) (z35), z36, z37, z38, z39, z40, z41, z42, z43, z44, z45, z46, z47, z48, z49, z50, z51, z52], defers := [] } ∧ Aside0 (Below W0.heap.size W0 V)
def rc7eInv (W0 : World) (ad : Addr) (Ao : Option Addr) (n c0 i' k no co : Nat) (x y : Node) (b1 b2 : Bool) (z1 z2 z3 z4 z8 z9 z10 z11 z12 z13 z14 z15 z16 z17 z18 z19 z20 z21 z22 z23 z24 z25 z26 z27 z28 z29 z30 z31 z32 z33 z34 z35 z36 z37 z38 z39 z40 z41 z42 z43 z44 z45 z46 z47 z48 z49 z50 z51 z52 : Value) (L : Array Bool) (ac : Act) (V : World) : Prop := ∃ (l0 l1 l2 l3 l4 l5 l6 l7 l8 l9 l10 l11 l12 l13 l14 : Bool), L = #[l0, l1, l2, l3, l4, l5, l6, l7, l8, l9, l10, l11, l12, l13, l14] ∧ ac = { tmps := #[.slice (some ad) n c0, z1, z2, z3, z4, .slice Ao no co, .int .i64 (i' : Int), .int .i64 (k : Int), z8, z9, z10, z11, z12, z13, z14, z15, z16, z17, z18, z19, z20, selv l0 (.int .i64 (k : Int)) (z21), selv l1 (.slice Ao no co) (z22), selv l2 (.int .i64 (no : Int)) (z23), selv l3 (.bool b1) (z24), selv l4 (.bool b1) (z25), selv l5 (undef) (z26), selv l6 (undef) (z27), selv l7 (undef) (z28), selv l8 (undef) (z29), selv l9 (undef) (z30), selv l10 (undef) (z31), selv l11 (undef) (z32), selv l12 (undef) (z33), selv l13 (undef) (z34), selv l14 (.bool b2) (z35), z36, z37, z38, z39, z40, z41, z42, z43, z44, z45, z46, z47, z48, z49, z50, z51, z52], defers := [] } ∧ Aside0 (Below W0.heap.size W0 V)
def rc9Inv (W0 : World) (ad : Addr) (Ao Ac : Option Addr) (n c0 i' k no co m3 q3 : Nat) (x : Node) (out : List Node) (z1 z2 z3 z4 z8 z9 z10 z11 z12 z13 z14 z15 z16 z17 z18 z19 z20 z21 z22 z23 z24 z25 z26 z27 z28 z29 z30 z31 z32 z33 z34 z35 z36 z37 z38 z39 z40 z41 z42 z43 z44 z45 z46 z47 z48 z49 z50 z51 z52 : Value) (L : Array Bool) (ac : Act) (V : World) : Prop := ∃ (l0 l1 l2 l3 l4 l5 l6 l7 l8 l9 l10 l11 l12 l13 l14 : Bool) (g : Nat) (v1 : Value) (v2 : Value) (v3 : Value), L = #[l0, l1, l2, l3, l4, l5, l6, l7, l8, l9, l10, l11, l12, l13, l14] ∧ ac = { tmps := #[.slice (some ad) n c0, z1, z2, z3, z4, selv l14 (v3) (.slice Ao no co), .int .i64 (i' : Int), .int .i64 (k : Int), z8, z9, z10, z11, z12, z13, z14, z15, z16, z17, z18, z19, z20, z21, z22, z23, z24, z25, z26, z27, z28, z29, z30, z31, z32, z33, z34, z35, z36, z37, selv l0 (.slice Ao no co) (z38), selv l1 (.int .i64 (k : Int)) (z39), selv l2 (.slice Ao k co) (z40), selv l3 (v1) (z41), selv l4 (.slice (some ad) n c0) (z42), selv l5 (.int .i64 (i' : Int)) (z43), selv l6 (.pointer (some (ad.add (i' * 6)))) (z44), selv l7 (vNode x) (z45), selv l8 (.slice (some ⟨g, 0, none⟩) 1 1) (z46), selv l9 (v2) (z47), selv l10 (.slice Ao no co) (z48), selv l11 (.int .i64 (k : Int)) (z49), selv l12 (.slice Ac m3 q3) (z50), selv l13 (v3) (z51), z52], defers := [] } ∧ Aside0 (RcF W0 out x k l0 l3 l8 l9 l10 l13 l14 g v1 v2 v3 V)
attribute [local go_sem high] eqA35 eqA24
set_option maxHeartbeats 4000000 in
set_option maxRecDepth 100000 in
theorem redpencilref11_Children.calls (A0 : Option Addr) (c0 : Nat) (l0 : List Node) (a1_0 a1_1 : Int) (r : List Node) (w : World) (hr0 : Kd.C k35 w A0 l0.length l0) (hc0 : l0.length ≤ c0) (h : redpencilref11_Children.f l0 a1_0 a1_1 = some r) :
  Calls Tryz.prog 19 #[.slice A0 l0.length c0, .agg #[.int .i64 a1_0, .int .i64 a1_1]] w fun e w' => ∃ v0_ : Value, e = .returned v0_ ∧ Kd.R k35 35 w' w.heap.size (fun _ => True) v0_ r ∧ Below w.heap.size w w' := by
 obtain ⟨d, hd⟩ : ∃ d : Dot, d = ⟨a1_0, a1_1⟩ := ⟨_, rfl⟩
 unfold redpencilref11_Children.f at h
 rw [← hd] at h
 rw [show a1_0 = d.f0 by rw [hd], show a1_1 = d.f1 by rw [hd]]
 clear hd
 by_cases hl : l0.length ≤ 400000
 rotate_left
 ·
  rw [if_neg hl] at h; cases h
 rw [if_pos hl] at h
 obtain rfl := Option.some.inj h
 have HR := Aside0.mk hr0
 have HL := Aside0.mk hl
 have HB0 := Aside0.mk (Gr.alloc w (dotC d)).below
 have HK0 := Aside0.mk (blk_new w (dotC d))
 clear h hr0 hc0 hl
 obtain ⟨n, Hn⟩ : ∃ n, Aside0 (l0.length = n) := ⟨_, ⟨rfl⟩⟩
 rw [Hn.out]
 have hn4 : n ≤ 400000 := by rw [← Hn.out]; exact HL.out
 go_enter Tryz.func19, Tryz.ntmps19
 go_wp2
 generalize w.alloc (dotC d) = W1 at *
 obtain ⟨B, HBe⟩ : ∃ B, Aside0 (w.heap.size = B) := ⟨_, ⟨rfl⟩⟩
 rw [HBe.out] at HK0
 rw [show (Value.pointer (some { block := w.heap.size, off := 0 })) = .pointer (some ⟨B, 0, none⟩) by rw [HBe.out]]
 go_loopw [5, 6] (fun o i wr => ∃ (i' : Nat) (Ao : Option Addr) (no co : Nat), i' ≤ n ∧ i = .int .i64 i' ∧ o = .slice Ao no co ∧ Aside0 (RN wr w.heap.size (.slice Ao no co) (kids (l0.take i') d)) ∧ Aside0 (wr.heap[B]? = some (dotC d)) ∧ Aside0 (Below w.heap.size w wr)) (fun _ i _ => n - (intOf i).toNat)
 case atStart => exact ⟨0, none, 0, 0, Nat.zero_le _, rfl, rfl, ⟨Kd.R_nil _ _ _ _ _⟩, HK0, HB0⟩
 case round =>
  obtain ⟨i', Ao, no, co, hi', rfl, rfl, HO, HK, HB⟩ := hrel
  by_cases hlt : i' < n
  ·
   have hltb : decide ((i' : Int) < (n : Int)) = true := decide_eq_true (by omega)
   obtain ⟨x, Hx⟩ : ∃ x, Aside0 (l0[i']? = some x) := ⟨_, ⟨List.getElem?_eq_getElem (by rw [Hn.out]; exact hlt)⟩⟩
   obtain ⟨ad, e, g0, g1, g2, g3, g4, g5⟩ := node_at HR.out HB.out i' x Hx.out
   subst e
   have k0 : wr.cell? ⟨B, 0, none⟩ = _ := (blk_cell HK.out 0).trans rfl
   have k1 : wr.cell? ⟨B, 1, none⟩ = _ := (blk_cell HK.out 1).trans rfl
   have HST : Aside0 (kids (l0.take (i' + 1)) d = if x.f1 = d then insB x (kids (l0.take i') d) else kids (l0.take i') d) := ⟨kids_take_succ Hx.out⟩
   have HOC := Aside0.mk (RN.C HO.out)
   have HNO : Aside0 (no ≤ 400000) := ⟨by have h1 := HOC.out.1; have h2 := kids_le (l0.take i') d; rw [List.length_take] at h2; omega⟩
   by_cases hxd : x.f1 = d
   ·
    have hne : (x.f1.f0 == d.f0 && (x.f1.f1 == d.f1)) = true := by rw [hxd]; simp
    have HXD := Aside0.mk hxd
    go_wp2
    go_quiet (fail)
    have hdq := (Gr.drawn (w := wr) ⟨nq, rfl⟩).below
    go_wp2
    clear hxd hne k0 k1 g0 g1 g2 g3 g4 g5
    have HHB := Aside0.mk (below_more HB.out hdq)
    have HHO := Aside0.mk (RN.below' HO.out hdq)
    have HHK := Aside0.mk (blk_keep HK.out hdq)
    have HHd := Aside0.mk hdq
    rw [if_pos HXD.out] at HST
    have HXI : Aside0 (i' < n ∧ n ≤ 400000) := ⟨hlt, hn4⟩
    clear hdq
    generalize wr.drewN nq = W2 at *
    go_loopw [7] (fun j wr => ∃ k : Nat, k ≤ no ∧ j = .int .i64 k ∧ Aside0 (∀ q y, q < k → (kids (l0.take i') d)[q]? = some y → nodeLt y x = true) ∧ Aside0 (Below W2.heap.size W2 wr)) (fun j _ => no - (intOf j).toNat)
    case atStart => exact ⟨0, Nat.zero_le _, rfl, ⟨fun q y hq => absurd hq (Nat.not_lt_zero _)⟩, ⟨Below.refl _ _⟩⟩
    case round =>
     obtain ⟨k, hk, rfl, HPRE, HB2⟩ := hrel
     by_cases hkl : k < no
     ·
      obtain ⟨y, Hy⟩ : ∃ y, Aside0 ((kids (l0.take i') d)[k]? = some y) := ⟨_, ⟨List.getElem?_eq_getElem (by rw [HOC.out.1]; exact hkl)⟩⟩
      obtain ⟨ado, e, y0, y1, y2, y3, y4, y5⟩ := node_at (RN.C HHO.out).2.2 HB2.out k y Hy.out
      subst e
      obtain ⟨ad', e, g0, g1, g2, g3, g4, g5⟩ := node_at HR.out (below_more HHB.out HB2.out) i' x Hx.out
      cases e
      have HY := Aside0.mk (And.intro y0 (And.intro y1 (And.intro y2 (And.intro y3 (And.intro y4 y5)))))
      have HG := Aside0.mk (And.intro g0 (And.intro g1 (And.intro g2 (And.intro g3 (And.intro g4 g5)))))
      have HKN : Aside0 (k < no ∧ no ≤ 400000) := ⟨hkl, HNO.out⟩
      clear y0 y1 y2 y3 y4 y5 g0 g1 g2 g3 g4 g5
      obtain ⟨b, Hb⟩ : ∃ b, Aside0 (nodeLt y x = b) := ⟨_, ⟨rfl⟩⟩
      cases b with
      | true =>
       go_wp2
       refine AnyOrder.wp_region (by kernel_rfl) (rc7Inv wr.drew ad ado n c0 i' k no co x y true true _ _ _ _ _ _ _ _ _ _ _ _ _ _ _ _ _ _ _ _ _ _ _ _ _ _ _ _ _ _ _ _ _ _ _ _ _ _ _ _ _ _ _ _ _ _ _ _ _) ⟨false, false, false, false, false, false, false, false, false, false, false, false, false, false, false, rfl, rfl, ⟨Below.refl _ _⟩⟩ ?step ?last
       case step =>
        rintro L ac V i ⟨l0, l1, l2, l3, l4, l5, l6, l7, l8, l9, l10, l11, l12, l13, l14, rfl, rfl, HF⟩ hi K hK
        have h1 : i = 0 ∨ i = 1 ∨ i = 2 ∨ i = 3 ∨ i = 4 ∨ i = 5 ∨ i = 6 ∨ i = 7 ∨ i = 8 ∨ i = 9 ∨ i = 10 ∨ i = 11 ∨ i = 12 ∨ i = 13 ∨ i = 14 := by
         have h1 := (AnyOrder.mem_ready hi).1
         clear hi hK
         change i < 15 at h1
         omega
        rcases h1 with rfl | rfl | rfl | rfl | rfl | rfl | rfl | rfl | rfl | rfl | rfl | rfl | rfl | rfl | rfl
        ·
         obtain rfl : l0 = false := (AnyOrder.mem_ready hi).2.1
         clear hi
         refine AnyOrder.wpOp_go rfl (by rfl) ?_
         go_wp2_with fail
         exact ⟨true, l1, l2, l3, l4, l5, l6, l7, l8, l9, l10, l11, l12, l13, l14, rfl, rfl, HF⟩
        ·
         obtain rfl : l1 = false := (AnyOrder.mem_ready hi).2.1
         clear hi
         refine AnyOrder.wpOp_go rfl (by rfl) ?_
         go_wp2_with fail
         exact ⟨l0, true, l2, l3, l4, l5, l6, l7, l8, l9, l10, l11, l12, l13, l14, rfl, rfl, HF⟩
        ·
         obtain rfl : l2 = false := (AnyOrder.mem_ready hi).2.1
         obtain rfl : l1 = true := AnyOrder.dep (q := 0) hi rfl rfl rfl
         clear hi
         simp only [sel_true, selv_true] at hK ⊢
         refine AnyOrder.wpOp_go rfl (by rfl) ?_
         go_wp2_with fail
         exact ⟨l0, true, true, l3, l4, l5, l6, l7, l8, l9, l10, l11, l12, l13, l14, rfl, rfl, HF⟩
        ·
         obtain rfl : l3 = false := (AnyOrder.mem_ready hi).2.1
         obtain rfl : l0 = true := AnyOrder.dep (q := 0) hi rfl rfl rfl
         obtain rfl : l2 = true := AnyOrder.dep (q := 1) hi rfl rfl rfl
         clear hi
         simp only [sel_true, selv_true] at hK ⊢
         have hdec : decide ((k : Int) < (no : Int)) = true := decide_eq_true (by omega)
         refine AnyOrder.wpOp_go rfl (by rfl) ?_
         go_wp2_with fail
         exact ⟨true, l1, true, true, l4, l5, l6, l7, l8, l9, l10, l11, l12, l13, l14, rfl, rfl, HF⟩
        ·
         obtain rfl : l4 = false := (AnyOrder.mem_ready hi).2.1
         obtain rfl : l3 = true := AnyOrder.dep (q := 0) hi rfl rfl rfl
         clear hi
         simp only [sel_true, selv_true] at hK ⊢
         refine AnyOrder.wpOp_go rfl (by rfl) ?_
         go_wp2_with fail
         exact ⟨l0, l1, l2, true, true, l5, l6, l7, l8, l9, l10, l11, l12, l13, l14, rfl, rfl, HF⟩
        ·
         obtain rfl : l5 = false := (AnyOrder.mem_ready hi).2.1
         obtain rfl : l4 = true := AnyOrder.dep (q := 0) hi rfl rfl rfl
         clear hi
         simp only [sel_true, selv_true] at hK ⊢
         refine AnyOrder.wpOp_go rfl (by rfl) ?_
         go_wp2_with fail
         exact ⟨l0, l1, l2, l3, true, true, l6, l7, l8, l9, l10, l11, l12, l13, l14, rfl, rfl, HF⟩
        ·
         obtain rfl : l6 = false := (AnyOrder.mem_ready hi).2.1
         obtain rfl : l4 = true := AnyOrder.dep (q := 0) hi rfl rfl rfl
         clear hi
         simp only [sel_true, selv_true] at hK ⊢
         refine AnyOrder.wpOp_go rfl (by rfl) ?_
         go_wp2_with fail
         exact ⟨l0, l1, l2, l3, true, l5, true, l7, l8, l9, l10, l11, l12, l13, l14, rfl, rfl, HF⟩
        ·
         obtain rfl : l7 = false := (AnyOrder.mem_ready hi).2.1
         obtain rfl : l5 = true := AnyOrder.dep (q := 0) hi rfl rfl rfl
         obtain rfl : l6 = true := AnyOrder.dep (q := 1) hi rfl rfl rfl
         obtain rfl : l4 = true := AnyOrder.dep (q := 2) hi rfl rfl rfl
         clear hi
         simp only [sel_true, selv_true] at hK ⊢
         have hkk := HKN.out.1
         have hkl2 := HKN.out.2
         refine AnyOrder.wpOp_go rfl (by rfl) ?_
         go_wp2_with fail
         exact ⟨l0, l1, l2, l3, true, true, true, true, l8, l9, l10, l11, l12, l13, l14, rfl, rfl, HF⟩
        ·
         obtain rfl : l8 = false := (AnyOrder.mem_ready hi).2.1
         obtain rfl : l7 = true := AnyOrder.dep (q := 0) hi rfl rfl rfl
         obtain rfl : l4 = true := AnyOrder.dep (q := 1) hi rfl rfl rfl
         clear hi
         simp only [sel_true, selv_true] at hK ⊢
         obtain ⟨y0, y1, y2, y3, y4, y5⟩ := HY.out
         have y0 := pw_cell_below HF.out y0
         have y1 := pw_cell_below HF.out y1
         have y2 := pw_cell_below HF.out y2
         have y3 := pw_cell_below HF.out y3
         have y4 := pw_cell_below HF.out y4
         have y5 := pw_cell_below HF.out y5
         refine AnyOrder.wpOp_go rfl (by rfl) ?_
         go_wp2_with fail
         exact ⟨l0, l1, l2, l3, true, l5, l6, true, true, l9, l10, l11, l12, l13, l14, rfl, rfl, HF⟩
        ·
         obtain rfl : l9 = false := (AnyOrder.mem_ready hi).2.1
         obtain rfl : l4 = true := AnyOrder.dep (q := 0) hi rfl rfl rfl
         clear hi
         simp only [sel_true, selv_true] at hK ⊢
         refine AnyOrder.wpOp_go rfl (by rfl) ?_
         go_wp2_with fail
         exact ⟨l0, l1, l2, l3, true, l5, l6, l7, l8, true, l10, l11, l12, l13, l14, rfl, rfl, HF⟩
        ·
         obtain rfl : l10 = false := (AnyOrder.mem_ready hi).2.1
         obtain rfl : l4 = true := AnyOrder.dep (q := 0) hi rfl rfl rfl
         clear hi
         simp only [sel_true, selv_true] at hK ⊢
         refine AnyOrder.wpOp_go rfl (by rfl) ?_
         go_wp2_with fail
         exact ⟨l0, l1, l2, l3, true, l5, l6, l7, l8, l9, true, l11, l12, l13, l14, rfl, rfl, HF⟩
        ·
         obtain rfl : l11 = false := (AnyOrder.mem_ready hi).2.1
         obtain rfl : l9 = true := AnyOrder.dep (q := 0) hi rfl rfl rfl
         obtain rfl : l10 = true := AnyOrder.dep (q := 1) hi rfl rfl rfl
         obtain rfl : l4 = true := AnyOrder.dep (q := 2) hi rfl rfl rfl
         clear hi
         simp only [sel_true, selv_true] at hK ⊢
         have hkk := HXI.out.1
         have hkl2 := HXI.out.2
         refine AnyOrder.wpOp_go rfl (by rfl) ?_
         go_wp2_with fail
         exact ⟨l0, l1, l2, l3, true, l5, l6, l7, l8, true, true, true, l12, l13, l14, rfl, rfl, HF⟩
        ·
         obtain rfl : l12 = false := (AnyOrder.mem_ready hi).2.1
         obtain rfl : l11 = true := AnyOrder.dep (q := 0) hi rfl rfl rfl
         obtain rfl : l4 = true := AnyOrder.dep (q := 1) hi rfl rfl rfl
         clear hi
         simp only [sel_true, selv_true] at hK ⊢
         obtain ⟨g0, g1, g2, g3, g4, g5⟩ := HG.out
         have g0 := pw_cell_below HF.out g0
         have g1 := pw_cell_below HF.out g1
         have g2 := pw_cell_below HF.out g2
         have g3 := pw_cell_below HF.out g3
         have g4 := pw_cell_below HF.out g4
         have g5 := pw_cell_below HF.out g5
         refine AnyOrder.wpOp_go rfl (by rfl) ?_
         go_wp2_with fail
         exact ⟨l0, l1, l2, l3, true, l5, l6, l7, l8, l9, l10, true, true, l13, l14, rfl, rfl, HF⟩
        ·
         obtain rfl : l13 = false := (AnyOrder.mem_ready hi).2.1
         obtain rfl : l8 = true := AnyOrder.dep (q := 0) hi rfl rfl rfl
         obtain rfl : l12 = true := AnyOrder.dep (q := 1) hi rfl rfl rfl
         obtain rfl : l4 = true := AnyOrder.dep (q := 2) hi rfl rfl rfl
         clear hi
         simp only [sel_true, selv_true] at hK ⊢
         refine AnyOrder.wpOp_go rfl (by rfl) ?_
         go_wp2_with fail
         refine (redpencilref09_Before.calls _ _ _ _ _ _ _ _ _ _ _ _ true V (by rw [before_is, Hb.out])).mono ?_
         rintro e V' ⟨rfl, hb⟩
         exact hK _ _ ⟨l0, l1, l2, l3, true, l5, l6, l7, true, l9, l10, l11, true, true, l14, rfl, rfl, ⟨below_more HF.out hb⟩⟩
        ·
         obtain rfl : l14 = false := (AnyOrder.mem_ready hi).2.1
         obtain rfl : l4 = true := AnyOrder.dep (q := 0) hi rfl rfl rfl
         obtain rfl : l13 = true := AnyOrder.dep (q := 1) hi rfl rfl rfl
         clear hi
         simp only [sel_true, selv_true] at hK ⊢
         refine AnyOrder.wpOp_go rfl (by rfl) ?_
         go_wp2_with fail
         exact ⟨l0, l1, l2, l3, true, l5, l6, l7, l8, l9, l10, l11, l12, true, true, rfl, rfl, HF⟩
       case last =>
        rintro L ac V ⟨l0, l1, l2, l3, l4, l5, l6, l7, l8, l9, l10, l11, l12, l13, l14, rfl, rfl, HF⟩ hr
        have hall := AnyOrder.all_listed rfl (by kernel_rfl) hr
        clear hr
        obtain rfl : l0 = true := hall 0 (by decide)
        obtain rfl : l1 = true := hall 1 (by decide)
        obtain rfl : l2 = true := hall 2 (by decide)
        obtain rfl : l3 = true := hall 3 (by decide)
        obtain rfl : l4 = true := hall 4 (by decide)
        obtain rfl : l5 = true := hall 5 (by decide)
        obtain rfl : l6 = true := hall 6 (by decide)
        obtain rfl : l7 = true := hall 7 (by decide)
        obtain rfl : l8 = true := hall 8 (by decide)
        obtain rfl : l9 = true := hall 9 (by decide)
        obtain rfl : l10 = true := hall 10 (by decide)
        obtain rfl : l11 = true := hall 11 (by decide)
        obtain rfl : l12 = true := hall 12 (by decide)
        obtain rfl : l13 = true := hall 13 (by decide)
        obtain rfl : l14 = true := hall 14 (by decide)
        clear hall
        simp only [sel_true, selv_true]
        have HHF := Aside0.mk (below_more (below_drew1 HB2.out) HF.out)
        have hno4 := HNO.out
        go_wp2
        go_roundw
        case rel => exact ⟨k + 1, by omega, by go_num, ⟨fun q z hq hz => by rcases Nat.lt_succ_iff_lt_or_eq.1 hq with h | h; exact HPRE.out q z h hz; subst h; rw [Hy.out] at hz; cases hz; exact Hb.out⟩, HHF⟩
        case measure => simp [intOf] <;> omega
      | false =>
       have HCUT : Aside0 (insB x (kids (l0.take i') d) = (kids (l0.take i') d).take k ++ [x] ++ (kids (l0.take i') d).drop k) := ⟨by rw [insB_cut, cutN_is (k := k) (by rw [HOC.out.1]; exact hk) HPRE.out (fun z hz => by rw [Hy.out] at hz; cases hz; exact Hb.out)]; simp⟩
       go_wp2
       refine AnyOrder.wp_region (by kernel_rfl) (rc7Inv wr.drew ad ado n c0 i' k no co x y true false _ _ _ _ _ _ _ _ _ _ _ _ _ _ _ _ _ _ _ _ _ _ _ _ _ _ _ _ _ _ _ _ _ _ _ _ _ _ _ _ _ _ _ _ _ _ _ _ _) ⟨false, false, false, false, false, false, false, false, false, false, false, false, false, false, false, rfl, rfl, ⟨Below.refl _ _⟩⟩ ?step ?last
       case step =>
        rintro L ac V i ⟨l0, l1, l2, l3, l4, l5, l6, l7, l8, l9, l10, l11, l12, l13, l14, rfl, rfl, HF⟩ hi K hK
        have h1 : i = 0 ∨ i = 1 ∨ i = 2 ∨ i = 3 ∨ i = 4 ∨ i = 5 ∨ i = 6 ∨ i = 7 ∨ i = 8 ∨ i = 9 ∨ i = 10 ∨ i = 11 ∨ i = 12 ∨ i = 13 ∨ i = 14 := by
         have h1 := (AnyOrder.mem_ready hi).1
         clear hi hK
         change i < 15 at h1
         omega
        rcases h1 with rfl | rfl | rfl | rfl | rfl | rfl | rfl | rfl | rfl | rfl | rfl | rfl | rfl | rfl | rfl
        ·
         obtain rfl : l0 = false := (AnyOrder.mem_ready hi).2.1
         clear hi
         refine AnyOrder.wpOp_go rfl (by rfl) ?_
         go_wp2_with fail
         exact ⟨true, l1, l2, l3, l4, l5, l6, l7, l8, l9, l10, l11, l12, l13, l14, rfl, rfl, HF⟩
        ·
         obtain rfl : l1 = false := (AnyOrder.mem_ready hi).2.1
         clear hi
         refine AnyOrder.wpOp_go rfl (by rfl) ?_
         go_wp2_with fail
         exact ⟨l0, true, l2, l3, l4, l5, l6, l7, l8, l9, l10, l11, l12, l13, l14, rfl, rfl, HF⟩
        ·
         obtain rfl : l2 = false := (AnyOrder.mem_ready hi).2.1
         obtain rfl : l1 = true := AnyOrder.dep (q := 0) hi rfl rfl rfl
         clear hi
         simp only [sel_true, selv_true] at hK ⊢
         refine AnyOrder.wpOp_go rfl (by rfl) ?_
         go_wp2_with fail
         exact ⟨l0, true, true, l3, l4, l5, l6, l7, l8, l9, l10, l11, l12, l13, l14, rfl, rfl, HF⟩
        ·
         obtain rfl : l3 = false := (AnyOrder.mem_ready hi).2.1
         obtain rfl : l0 = true := AnyOrder.dep (q := 0) hi rfl rfl rfl
         obtain rfl : l2 = true := AnyOrder.dep (q := 1) hi rfl rfl rfl
         clear hi
         simp only [sel_true, selv_true] at hK ⊢
         have hdec : decide ((k : Int) < (no : Int)) = true := decide_eq_true (by omega)
         refine AnyOrder.wpOp_go rfl (by rfl) ?_
         go_wp2_with fail
         exact ⟨true, l1, true, true, l4, l5, l6, l7, l8, l9, l10, l11, l12, l13, l14, rfl, rfl, HF⟩
        ·
         obtain rfl : l4 = false := (AnyOrder.mem_ready hi).2.1
         obtain rfl : l3 = true := AnyOrder.dep (q := 0) hi rfl rfl rfl
         clear hi
         simp only [sel_true, selv_true] at hK ⊢
         refine AnyOrder.wpOp_go rfl (by rfl) ?_
         go_wp2_with fail
         exact ⟨l0, l1, l2, true, true, l5, l6, l7, l8, l9, l10, l11, l12, l13, l14, rfl, rfl, HF⟩
        ·
         obtain rfl : l5 = false := (AnyOrder.mem_ready hi).2.1
         obtain rfl : l4 = true := AnyOrder.dep (q := 0) hi rfl rfl rfl
         clear hi
         simp only [sel_true, selv_true] at hK ⊢
         refine AnyOrder.wpOp_go rfl (by rfl) ?_
         go_wp2_with fail
         exact ⟨l0, l1, l2, l3, true, true, l6, l7, l8, l9, l10, l11, l12, l13, l14, rfl, rfl, HF⟩
        ·
         obtain rfl : l6 = false := (AnyOrder.mem_ready hi).2.1
         obtain rfl : l4 = true := AnyOrder.dep (q := 0) hi rfl rfl rfl
         clear hi
         simp only [sel_true, selv_true] at hK ⊢
         refine AnyOrder.wpOp_go rfl (by rfl) ?_
         go_wp2_with fail
         exact ⟨l0, l1, l2, l3, true, l5, true, l7, l8, l9, l10, l11, l12, l13, l14, rfl, rfl, HF⟩
        ·
         obtain rfl : l7 = false := (AnyOrder.mem_ready hi).2.1
         obtain rfl : l5 = true := AnyOrder.dep (q := 0) hi rfl rfl rfl
         obtain rfl : l6 = true := AnyOrder.dep (q := 1) hi rfl rfl rfl
         obtain rfl : l4 = true := AnyOrder.dep (q := 2) hi rfl rfl rfl
         clear hi
         simp only [sel_true, selv_true] at hK ⊢
         have hkk := HKN.out.1
         have hkl2 := HKN.out.2
         refine AnyOrder.wpOp_go rfl (by rfl) ?_
         go_wp2_with fail
         exact ⟨l0, l1, l2, l3, true, true, true, true, l8, l9, l10, l11, l12, l13, l14, rfl, rfl, HF⟩
        ·
         obtain rfl : l8 = false := (AnyOrder.mem_ready hi).2.1
         obtain rfl : l7 = true := AnyOrder.dep (q := 0) hi rfl rfl rfl
         obtain rfl : l4 = true := AnyOrder.dep (q := 1) hi rfl rfl rfl
         clear hi
         simp only [sel_true, selv_true] at hK ⊢
         obtain ⟨y0, y1, y2, y3, y4, y5⟩ := HY.out
         have y0 := pw_cell_below HF.out y0
         have y1 := pw_cell_below HF.out y1
         have y2 := pw_cell_below HF.out y2
         have y3 := pw_cell_below HF.out y3
         have y4 := pw_cell_below HF.out y4
         have y5 := pw_cell_below HF.out y5
         refine AnyOrder.wpOp_go rfl (by rfl) ?_
         go_wp2_with fail
         exact ⟨l0, l1, l2, l3, true, l5, l6, true, true, l9, l10, l11, l12, l13, l14, rfl, rfl, HF⟩
        ·
         obtain rfl : l9 = false := (AnyOrder.mem_ready hi).2.1
         obtain rfl : l4 = true := AnyOrder.dep (q := 0) hi rfl rfl rfl
         clear hi
         simp only [sel_true, selv_true] at hK ⊢
         refine AnyOrder.wpOp_go rfl (by rfl) ?_
         go_wp2_with fail
         exact ⟨l0, l1, l2, l3, true, l5, l6, l7, l8, true, l10, l11, l12, l13, l14, rfl, rfl, HF⟩
        ·
         obtain rfl : l10 = false := (AnyOrder.mem_ready hi).2.1
         obtain rfl : l4 = true := AnyOrder.dep (q := 0) hi rfl rfl rfl
         clear hi
         simp only [sel_true, selv_true] at hK ⊢
         refine AnyOrder.wpOp_go rfl (by rfl) ?_
         go_wp2_with fail
         exact ⟨l0, l1, l2, l3, true, l5, l6, l7, l8, l9, true, l11, l12, l13, l14, rfl, rfl, HF⟩
        ·
         obtain rfl : l11 = false := (AnyOrder.mem_ready hi).2.1
         obtain rfl : l9 = true := AnyOrder.dep (q := 0) hi rfl rfl rfl
         obtain rfl : l10 = true := AnyOrder.dep (q := 1) hi rfl rfl rfl
         obtain rfl : l4 = true := AnyOrder.dep (q := 2) hi rfl rfl rfl
         clear hi
         simp only [sel_true, selv_true] at hK ⊢
         have hkk := HXI.out.1
         have hkl2 := HXI.out.2
         refine AnyOrder.wpOp_go rfl (by rfl) ?_
         go_wp2_with fail
         exact ⟨l0, l1, l2, l3, true, l5, l6, l7, l8, true, true, true, l12, l13, l14, rfl, rfl, HF⟩
        ·
         obtain rfl : l12 = false := (AnyOrder.mem_ready hi).2.1
         obtain rfl : l11 = true := AnyOrder.dep (q := 0) hi rfl rfl rfl
         obtain rfl : l4 = true := AnyOrder.dep (q := 1) hi rfl rfl rfl
         clear hi
         simp only [sel_true, selv_true] at hK ⊢
         obtain ⟨g0, g1, g2, g3, g4, g5⟩ := HG.out
         have g0 := pw_cell_below HF.out g0
         have g1 := pw_cell_below HF.out g1
         have g2 := pw_cell_below HF.out g2
         have g3 := pw_cell_below HF.out g3
         have g4 := pw_cell_below HF.out g4
         have g5 := pw_cell_below HF.out g5
         refine AnyOrder.wpOp_go rfl (by rfl) ?_
         go_wp2_with fail
         exact ⟨l0, l1, l2, l3, true, l5, l6, l7, l8, l9, l10, true, true, l13, l14, rfl, rfl, HF⟩
        ·
         obtain rfl : l13 = false := (AnyOrder.mem_ready hi).2.1
         obtain rfl : l8 = true := AnyOrder.dep (q := 0) hi rfl rfl rfl
         obtain rfl : l12 = true := AnyOrder.dep (q := 1) hi rfl rfl rfl
         obtain rfl : l4 = true := AnyOrder.dep (q := 2) hi rfl rfl rfl
         clear hi
         simp only [sel_true, selv_true] at hK ⊢
         refine AnyOrder.wpOp_go rfl (by rfl) ?_
         go_wp2_with fail
         refine (redpencilref09_Before.calls _ _ _ _ _ _ _ _ _ _ _ _ false V (by rw [before_is, Hb.out])).mono ?_
         rintro e V' ⟨rfl, hb⟩
         exact hK _ _ ⟨l0, l1, l2, l3, true, l5, l6, l7, true, l9, l10, l11, true, true, l14, rfl, rfl, ⟨below_more HF.out hb⟩⟩
        ·
         obtain rfl : l14 = false := (AnyOrder.mem_ready hi).2.1
         obtain rfl : l4 = true := AnyOrder.dep (q := 0) hi rfl rfl rfl
         obtain rfl : l13 = true := AnyOrder.dep (q := 1) hi rfl rfl rfl
         clear hi
         simp only [sel_true, selv_true] at hK ⊢
         refine AnyOrder.wpOp_go rfl (by rfl) ?_
         go_wp2_with fail
         exact ⟨l0, l1, l2, l3, true, l5, l6, l7, l8, l9, l10, l11, l12, true, true, rfl, rfl, HF⟩
       case last =>
        rintro L ac V ⟨l0, l1, l2, l3, l4, l5, l6, l7, l8, l9, l10, l11, l12, l13, l14, rfl, rfl, HF⟩ hr
        have hall := AnyOrder.all_listed rfl (by kernel_rfl) hr
        clear hr
        obtain rfl : l0 = true := hall 0 (by decide)
        obtain rfl : l1 = true := hall 1 (by decide)
        obtain rfl : l2 = true := hall 2 (by decide)
        obtain rfl : l3 = true := hall 3 (by decide)
        obtain rfl : l4 = true := hall 4 (by decide)
        obtain rfl : l5 = true := hall 5 (by decide)
        obtain rfl : l6 = true := hall 6 (by decide)
        obtain rfl : l7 = true := hall 7 (by decide)
        obtain rfl : l8 = true := hall 8 (by decide)
        obtain rfl : l9 = true := hall 9 (by decide)
        obtain rfl : l10 = true := hall 10 (by decide)
        obtain rfl : l11 = true := hall 11 (by decide)
        obtain rfl : l12 = true := hall 12 (by decide)
        obtain rfl : l13 = true := hall 13 (by decide)
        obtain rfl : l14 = true := hall 14 (by decide)
        clear hall
        simp only [sel_true, selv_true]
        have HHF := Aside0.mk (below_more (below_drew1 HB2.out) HF.out)
        clear HF
        generalize V = V9 at *
        have HHO9 := Aside0.mk (RN.C (RN.below' HHO.out (below_drew1 HHF.out)))
        have HB9 := Aside0.mk (below_more HHB.out (below_drew1 HHF.out))
        obtain ⟨ad', e, g0, g1, g2, g3, g4, g5⟩ := node_at HR.out HB9.out i' x Hx.out
        cases e
        have HG := Aside0.mk (And.intro g0 (And.intro g1 (And.intro g2 (And.intro g3 (And.intro g4 g5)))))
        have HKC : Aside0 (k ≤ no ∧ no ≤ 400000) := ⟨⟨Nat.le_of_lt hkl, HNO.out⟩⟩
        clear g0 g1 g2 g3 g4 g5
        obtain ⟨out, Hout⟩ : ∃ out, Aside0 (kids (l0.take i') d = out) := ⟨_, ⟨rfl⟩⟩
        rw [Hout.out] at HHO9 HCUT HST
        obtain ⟨m3, Hm3⟩ : ∃ m3, Aside0 (no - k = m3) := ⟨_, ⟨rfl⟩⟩
        obtain ⟨q3, Hq3⟩ : ∃ q3, Aside0 (co - k = q3) := ⟨_, ⟨rfl⟩⟩
        obtain ⟨Ac, HAc⟩ : ∃ Ac, Aside0 ((if co = k then (some ado) else Option.map (·.add (k * 6)) (some ado)) = Ac) := ⟨_, ⟨rfl⟩⟩
        have HCD : Aside0 (Kd.C k35 V9.drew Ac m3 (out.drop k)) := ⟨by rw [← HAc.out, ← Hm3.out]; exact C_from HHO9.out.2.2 HHO9.out.1 HKC.out.1 HHO9.out.2.1⟩
        have HCF : Aside0 (∀ W, (Instr.sliceAt 22 (.slice (some ado) no co) (some (.int .i64 (k : Int))) none none).run Tryz.prog W = .ok (.slice Ac m3 q3) W) := ⟨fun W => by rw [← HAc.out, ← Hm3.out, ← Hq3.out]; exact cut_fromN HKC.out.1 W⟩
        go_wp2_with fail
        refine AnyOrder.wp_region (by kernel_rfl) (rc9Inv V9.drew ad (some ado) Ac n c0 i' k no co m3 q3 x out _ _ _ _ _ _ _ _ _ _ _ _ _ _ _ _ _ _ _ _ _ _ _ _ _ _ _ _ _ _ _ _ _ _ _ _ _ _ _ _ _ _ _ _ _ _ _ _ _) ⟨false, false, false, false, false, false, false, false, false, false, false, false, false, false, false, 0, undef, undef, undef, rfl, rfl, ⟨⟨fun h => (by cases h), fun h => (by cases h), fun h => (by cases h), Below.refl _ _, fun h _ => (by cases h), fun h _ => (by cases h), fun h _ => (by cases h), fun h => (by cases h)⟩⟩⟩ ?step ?last
        case step =>
         rintro L ac V i ⟨l0, l1, l2, l3, l4, l5, l6, l7, l8, l9, l10, l11, l12, l13, l14, g, v1, v2, v3, rfl, rfl, HF⟩ hi K hK
         have h1 : i = 0 ∨ i = 1 ∨ i = 2 ∨ i = 3 ∨ i = 4 ∨ i = 5 ∨ i = 6 ∨ i = 7 ∨ i = 8 ∨ i = 9 ∨ i = 10 ∨ i = 11 ∨ i = 12 ∨ i = 13 ∨ i = 14 := by
          have h1 := (AnyOrder.mem_ready hi).1
          clear hi hK
          change i < 15 at h1
          omega
         rcases h1 with rfl | rfl | rfl | rfl | rfl | rfl | rfl | rfl | rfl | rfl | rfl | rfl | rfl | rfl | rfl
         ·
          obtain rfl : l0 = false := (AnyOrder.mem_ready hi).2.1
          clear hi
          obtain rfl : l14 = false := by cases l14 with | false => rfl | true => cases (HF.out.ord14 rfl).2.1
          (try simp only [sel_false, selv_false] at hK ⊢)
          refine AnyOrder.wpOp_go rfl (by rfl) ?_
          go_wp2_with fail
          exact ⟨true, l1, l2, l3, l4, l5, l6, l7, l8, l9, l10, l11, l12, l13, false, g, v1, v2, v3, rfl, rfl, ⟨⟨HF.out.ord9, HF.out.ord13, fun h => (by cases h), HF.out.below, HF.out.r1, HF.out.bx, HF.out.r2, HF.out.r3⟩⟩⟩
         ·
          obtain rfl : l1 = false := (AnyOrder.mem_ready hi).2.1
          clear hi
          refine AnyOrder.wpOp_go rfl (by rfl) ?_
          go_wp2_with fail
          exact ⟨l0, true, l2, l3, l4, l5, l6, l7, l8, l9, l10, l11, l12, l13, l14, g, v1, v2, v3, rfl, rfl, HF⟩
         ·
          obtain rfl : l2 = false := (AnyOrder.mem_ready hi).2.1
          obtain rfl : l0 = true := AnyOrder.dep (q := 0) hi rfl rfl rfl
          obtain rfl : l1 = true := AnyOrder.dep (q := 1) hi rfl rfl rfl
          clear hi
          simp only [sel_true, selv_true] at hK ⊢
          refine AnyOrder.wpOp_go rfl (by rfl) ?_
          refine op_slice 22 (.tmp 38) none (some (.tmp 39)) rfl rfl rfl rfl (cut_toN HKC.out.1 HHO9.out.2.1 V) ?_
          exact hK _ _ ⟨true, true, true, l3, l4, l5, l6, l7, l8, l9, l10, l11, l12, l13, l14, g, v1, v2, v3, rfl, rfl, HF⟩
         ·
          obtain rfl : l3 = false := (AnyOrder.mem_ready hi).2.1
          obtain rfl : l2 = true := AnyOrder.dep (q := 0) hi rfl rfl rfl
          clear hi
          simp only [sel_true, selv_true] at hK ⊢
          obtain ⟨rfl, rfl, rfl⟩ := HF.out.no (.inl rfl)
          refine AnyOrder.wpOp_go rfl (by rfl) ?_
          refine op_append_node V9.drew.heap.size rfl (.const (.slice none 0 0)) (.tmp 40) rfl (.slice none 0 0) [] (out.take k) (some ado) k co rfl rfl (Kd.R_nil _ _ _ _ _) (C_to (Kd.C_below HHO9.out.2.2 HF.out.below) HHO9.out.1 HKC.out.1) HF.out.below.size (by have h1 := HKC.out.1; have h2 := HKC.out.2; simp; omega) ?_
          intro u1 V1 hr1 hg1 _
          have hb1 := grown_nil hg1
          exact hK _ _ ⟨l0, l1, true, true, l4, l5, l6, l7, l8, false, l10, l11, l12, false, false, g, u1, v2, v3, rfl, rfl, ⟨⟨fun h => (by cases h), fun h => (by cases h), fun h => (by cases h), below_more HF.out.below hb1, fun _ _ => hr1, fun h _ => blk_keep (HF.out.bx h rfl) hb1, fun h _ => (by cases h), fun h => (by cases h)⟩⟩⟩
         ·
          obtain rfl : l4 = false := (AnyOrder.mem_ready hi).2.1
          clear hi
          refine AnyOrder.wpOp_go rfl (by rfl) ?_
          go_wp2_with fail
          exact ⟨l0, l1, l2, l3, true, l5, l6, l7, l8, l9, l10, l11, l12, l13, l14, g, v1, v2, v3, rfl, rfl, HF⟩
         ·
          obtain rfl : l5 = false := (AnyOrder.mem_ready hi).2.1
          clear hi
          refine AnyOrder.wpOp_go rfl (by rfl) ?_
          go_wp2_with fail
          exact ⟨l0, l1, l2, l3, l4, true, l6, l7, l8, l9, l10, l11, l12, l13, l14, g, v1, v2, v3, rfl, rfl, HF⟩
         ·
          obtain rfl : l6 = false := (AnyOrder.mem_ready hi).2.1
          obtain rfl : l4 = true := AnyOrder.dep (q := 0) hi rfl rfl rfl
          obtain rfl : l5 = true := AnyOrder.dep (q := 1) hi rfl rfl rfl
          clear hi
          simp only [sel_true, selv_true] at hK ⊢
          have hkk := HXI.out.1
          have hkl2 := HXI.out.2
          refine AnyOrder.wpOp_go rfl (by rfl) ?_
          go_wp2_with fail
          exact ⟨l0, l1, l2, l3, true, true, true, l7, l8, l9, l10, l11, l12, l13, l14, g, v1, v2, v3, rfl, rfl, HF⟩
         ·
          obtain rfl : l7 = false := (AnyOrder.mem_ready hi).2.1
          obtain rfl : l6 = true := AnyOrder.dep (q := 0) hi rfl rfl rfl
          clear hi
          simp only [sel_true, selv_true] at hK ⊢
          obtain ⟨g0, g1, g2, g3, g4, g5⟩ := HG.out
          have g0 := pw_cell_below HF.out.below g0
          have g1 := pw_cell_below HF.out.below g1
          have g2 := pw_cell_below HF.out.below g2
          have g3 := pw_cell_below HF.out.below g3
          have g4 := pw_cell_below HF.out.below g4
          have g5 := pw_cell_below HF.out.below g5
          refine AnyOrder.wpOp_go rfl (by rfl) ?_
          go_wp2_with fail
          exact ⟨l0, l1, l2, l3, l4, l5, true, true, l8, l9, l10, l11, l12, l13, l14, g, v1, v2, v3, rfl, rfl, HF⟩
         ·
          obtain rfl : l8 = false := (AnyOrder.mem_ready hi).2.1
          obtain rfl : l7 = true := AnyOrder.dep (q := 0) hi rfl rfl rfl
          clear hi
          simp only [sel_true, selv_true] at hK ⊢
          obtain ⟨rfl, rfl, rfl⟩ := HF.out.no (.inr rfl)
          have hb1 := (Gr.alloc V (boxN x)).below
          refine AnyOrder.wpOp_go rfl (by rfl) ?_
          go_wp2_with fail
          exact ⟨l0, l1, l2, l3, l4, l5, l6, true, true, false, l10, l11, l12, false, false, V.heap.size, v1, v2, v3, rfl, rfl, ⟨⟨fun h => (by cases h), fun h => (by cases h), fun h => (by cases h), below_more HF.out.below hb1, fun h _ => RN.below' (HF.out.r1 h rfl) hb1, fun _ _ => blk_new _ _, fun h _ => (by cases h), fun h => (by cases h)⟩⟩⟩
         ·
          obtain rfl : l9 = false := (AnyOrder.mem_ready hi).2.1
          obtain rfl : l3 = true := AnyOrder.dep (q := 0) hi rfl rfl rfl
          obtain rfl : l8 = true := AnyOrder.dep (q := 1) hi rfl rfl rfl
          clear hi
          simp only [sel_true, selv_true] at hK ⊢
          obtain rfl : l13 = false := by cases l13 with | false => rfl | true => cases HF.out.ord13 rfl
          obtain rfl : l14 = false := by cases l14 with | false => rfl | true => cases (HF.out.ord14 rfl).1
          have hr1 := HF.out.r1 rfl rfl
          refine AnyOrder.wpOp_go rfl (by rfl) ?_
          refine op_append_node V9.drew.heap.size rfl (.tmp 41) (.tmp 46) rfl v1 (out.take k) [x] (some ⟨g, 0, none⟩) 1 1 rfl rfl hr1 (boxN_C (HF.out.bx rfl rfl)) HF.out.below.size (by have h1 := HKC.out.1; have h2 := HKC.out.2; rw [List.length_take]; omega) ?_
          intro u2 V2 hr2 hg2 _
          exact hK _ _ ⟨l0, l1, l2, true, l4, l5, l6, l7, true, true, l10, l11, l12, false, false, g, v1, u2, v3, rfl, rfl, ⟨⟨fun _ => ⟨rfl, rfl⟩, fun h => (by cases h), fun h => (by cases h), grown_below HF.out.below hr1 hg2, fun _ h => (by cases h), fun _ h => (by cases h), fun _ _ => hr2, fun h => (by cases h)⟩⟩⟩
         ·
          obtain rfl : l10 = false := (AnyOrder.mem_ready hi).2.1
          clear hi
          obtain rfl : l14 = false := by cases l14 with | false => rfl | true => cases (HF.out.ord14 rfl).2.2
          (try simp only [sel_false, selv_false] at hK ⊢)
          refine AnyOrder.wpOp_go rfl (by rfl) ?_
          go_wp2_with fail
          exact ⟨l0, l1, l2, l3, l4, l5, l6, l7, l8, l9, true, l11, l12, l13, false, g, v1, v2, v3, rfl, rfl, ⟨⟨HF.out.ord9, HF.out.ord13, fun h => (by cases h), HF.out.below, HF.out.r1, HF.out.bx, HF.out.r2, HF.out.r3⟩⟩⟩
         ·
          obtain rfl : l11 = false := (AnyOrder.mem_ready hi).2.1
          clear hi
          refine AnyOrder.wpOp_go rfl (by rfl) ?_
          go_wp2_with fail
          exact ⟨l0, l1, l2, l3, l4, l5, l6, l7, l8, l9, l10, true, l12, l13, l14, g, v1, v2, v3, rfl, rfl, HF⟩
         ·
          obtain rfl : l12 = false := (AnyOrder.mem_ready hi).2.1
          obtain rfl : l10 = true := AnyOrder.dep (q := 0) hi rfl rfl rfl
          obtain rfl : l11 = true := AnyOrder.dep (q := 1) hi rfl rfl rfl
          clear hi
          simp only [sel_true, selv_true] at hK ⊢
          refine AnyOrder.wpOp_go rfl (by rfl) ?_
          refine op_slice 22 (.tmp 48) (some (.tmp 49)) none rfl rfl rfl rfl (HCF.out V) ?_
          exact hK _ _ ⟨l0, l1, l2, l3, l4, l5, l6, l7, l8, l9, true, true, true, l13, l14, g, v1, v2, v3, rfl, rfl, HF⟩
         ·
          obtain rfl : l13 = false := (AnyOrder.mem_ready hi).2.1
          obtain rfl : l9 = true := AnyOrder.dep (q := 0) hi rfl rfl rfl
          obtain rfl : l12 = true := AnyOrder.dep (q := 1) hi rfl rfl rfl
          clear hi
          simp only [sel_true, selv_true] at hK ⊢
          obtain rfl : l14 = false := by cases l14 with | false => rfl | true => cases (HF.out.ord14 rfl).1
          have hr2 := HF.out.r2 rfl rfl
          refine AnyOrder.wpOp_go rfl (by rfl) ?_
          refine op_append_node V9.drew.heap.size rfl (.tmp 47) (.tmp 50) rfl v2 (out.take k ++ [x]) (out.drop k) Ac m3 q3 rfl rfl hr2 (Kd.C_below HCD.out HF.out.below) HF.out.below.size (by have h1 := HKC.out.1; have h2 := HKC.out.2; have h3 := Hm3.out; rw [List.length_append, List.length_take, List.length_singleton]; omega) ?_
          intro u3 V3 hr3 hg3 _
          exact hK _ _ ⟨l0, l1, l2, l3, l4, l5, l6, l7, l8, true, l10, l11, true, true, false, g, v1, v2, u3, rfl, rfl, ⟨⟨HF.out.ord9, fun _ => rfl, fun h => (by cases h), grown_below HF.out.below hr2 hg3, fun _ h => (by cases h), fun _ h => (by cases h), fun _ h => (by cases h), fun _ => by rw [HCUT.out]; exact hr3⟩⟩⟩
         ·
          obtain rfl : l14 = false := (AnyOrder.mem_ready hi).2.1
          obtain rfl : l13 = true := AnyOrder.dep (q := 0) hi rfl rfl rfl
          obtain rfl : l0 = true := AnyOrder.dep (q := 2) hi rfl rfl rfl
          obtain rfl : l1 = true := AnyOrder.dep (q := 3) hi rfl rfl rfl
          obtain rfl : l2 = true := AnyOrder.dep (q := 4) hi rfl rfl rfl
          obtain rfl : l3 = true := AnyOrder.dep (q := 5) hi rfl rfl rfl
          obtain rfl : l4 = true := AnyOrder.dep (q := 6) hi rfl rfl rfl
          obtain rfl : l5 = true := AnyOrder.dep (q := 7) hi rfl rfl rfl
          obtain rfl : l6 = true := AnyOrder.dep (q := 8) hi rfl rfl rfl
          obtain rfl : l7 = true := AnyOrder.dep (q := 9) hi rfl rfl rfl
          obtain rfl : l8 = true := AnyOrder.dep (q := 10) hi rfl rfl rfl
          obtain rfl : l9 = true := AnyOrder.dep (q := 11) hi rfl rfl rfl
          obtain rfl : l10 = true := AnyOrder.dep (q := 12) hi rfl rfl rfl
          obtain rfl : l11 = true := AnyOrder.dep (q := 13) hi rfl rfl rfl
          obtain rfl : l12 = true := AnyOrder.dep (q := 14) hi rfl rfl rfl
          clear hi
          simp only [sel_true, selv_true] at hK ⊢
          refine AnyOrder.wpOp_go rfl (by rfl) ?_
          go_wp2_with fail
          exact ⟨true, true, true, true, true, true, true, true, true, true, true, true, true, true, true, g, v1, v2, v3, rfl, rfl, ⟨⟨HF.out.ord9, HF.out.ord13, fun _ => ⟨rfl, rfl, rfl⟩, HF.out.below, HF.out.r1, HF.out.bx, HF.out.r2, HF.out.r3⟩⟩⟩
        case last =>
         rintro L ac V ⟨l0, l1, l2, l3, l4, l5, l6, l7, l8, l9, l10, l11, l12, l13, l14, g, v1, v2, v3, rfl, rfl, HF⟩ hr
         have hall := AnyOrder.all_listed rfl (by kernel_rfl) hr
         clear hr
         obtain rfl : l0 = true := hall 0 (by decide)
         obtain rfl : l1 = true := hall 1 (by decide)
         obtain rfl : l2 = true := hall 2 (by decide)
         obtain rfl : l3 = true := hall 3 (by decide)
         obtain rfl : l4 = true := hall 4 (by decide)
         obtain rfl : l5 = true := hall 5 (by decide)
         obtain rfl : l6 = true := hall 6 (by decide)
         obtain rfl : l7 = true := hall 7 (by decide)
         obtain rfl : l8 = true := hall 8 (by decide)
         obtain rfl : l9 = true := hall 9 (by decide)
         obtain rfl : l10 = true := hall 10 (by decide)
         obtain rfl : l11 = true := hall 11 (by decide)
         obtain rfl : l12 = true := hall 12 (by decide)
         obtain rfl : l13 = true := hall 13 (by decide)
         obtain rfl : l14 = true := hall 14 (by decide)
         clear hall
         simp only [sel_true, selv_true]
         have HR3 := Aside0.mk (HF.out.r3 rfl)
         have HB3 := Aside0.mk (below_more HB9.out HF.out.below)
         have HK3 := Aside0.mk (blk_keep (blk_keep HHK.out (below_drew1 HHF.out)) HF.out.below)
         have hn4 := HXI.out.2
         obtain ⟨A3, c3, rfl⟩ := RN.slice HR3.out
         obtain ⟨n3, hn3⟩ : ∃ n3, (insB x out).length = n3 := ⟨_, rfl⟩
         rw [hn3] at HR3 ⊢
         clear HF hn3
         go_wp2
         go_roundw
         case rel => exact ⟨i' + 1, A3, n3, c3, by omega, by go_num, rfl, ⟨by rw [HST.out]; exact Kd.R_lower HR3.out HB9.out.size⟩, HK3, HB3⟩
         case measure => simp [intOf] <;> omega
     ·
      obtain rfl : k = no := by omega
      have HCUT : Aside0 (insB x (kids (l0.take i') d) = (kids (l0.take i') d).take k ++ [x] ++ (kids (l0.take i') d).drop k) := ⟨by rw [insB_cut, cutN_is (k := k) (by rw [HOC.out.1]; exact hk) HPRE.out (fun z hz => by rw [List.getElem?_eq_none (by rw [HOC.out.1]; exact hk)] at hz; cases hz)]; simp⟩
      go_wp2
      refine AnyOrder.wp_region (by kernel_rfl) (rc7eInv wr.drew ad Ao n c0 i' k k co x x false false _ _ _ _ _ _ _ _ _ _ _ _ _ _ _ _ _ _ _ _ _ _ _ _ _ _ _ _ _ _ _ _ _ _ _ _ _ _ _ _ _ _ _ _ _ _ _ _ _) ⟨false, false, false, false, false, false, false, false, false, false, false, false, false, false, false, rfl, rfl, ⟨Below.refl _ _⟩⟩ ?step ?last
      case step =>
       rintro L ac V i ⟨l0, l1, l2, l3, l4, l5, l6, l7, l8, l9, l10, l11, l12, l13, l14, rfl, rfl, HF⟩ hi K hK
       have h1 : i = 0 ∨ i = 1 ∨ i = 2 ∨ i = 3 ∨ i = 4 ∨ i = 5 ∨ i = 6 ∨ i = 7 ∨ i = 8 ∨ i = 9 ∨ i = 10 ∨ i = 11 ∨ i = 12 ∨ i = 13 ∨ i = 14 := by
        have h1 := (AnyOrder.mem_ready hi).1
        clear hi hK
        change i < 15 at h1
        omega
       rcases h1 with rfl | rfl | rfl | rfl | rfl | rfl | rfl | rfl | rfl | rfl | rfl | rfl | rfl | rfl | rfl
       ·
        obtain rfl : l0 = false := (AnyOrder.mem_ready hi).2.1
        clear hi
        refine AnyOrder.wpOp_go rfl (by rfl) ?_
        go_wp2_with fail
        exact ⟨true, l1, l2, l3, l4, l5, l6, l7, l8, l9, l10, l11, l12, l13, l14, rfl, rfl, HF⟩
       ·
        obtain rfl : l1 = false := (AnyOrder.mem_ready hi).2.1
        clear hi
        refine AnyOrder.wpOp_go rfl (by rfl) ?_
        go_wp2_with fail
        exact ⟨l0, true, l2, l3, l4, l5, l6, l7, l8, l9, l10, l11, l12, l13, l14, rfl, rfl, HF⟩
       ·
        obtain rfl : l2 = false := (AnyOrder.mem_ready hi).2.1
        obtain rfl : l1 = true := AnyOrder.dep (q := 0) hi rfl rfl rfl
        clear hi
        simp only [sel_true, selv_true] at hK ⊢
        refine AnyOrder.wpOp_go rfl (by rfl) ?_
        go_wp2_with fail
        exact ⟨l0, true, true, l3, l4, l5, l6, l7, l8, l9, l10, l11, l12, l13, l14, rfl, rfl, HF⟩
       ·
        obtain rfl : l3 = false := (AnyOrder.mem_ready hi).2.1
        obtain rfl : l0 = true := AnyOrder.dep (q := 0) hi rfl rfl rfl
        obtain rfl : l2 = true := AnyOrder.dep (q := 1) hi rfl rfl rfl
        clear hi
        simp only [sel_true, selv_true] at hK ⊢
        have hdec : decide ((k : Int) < (k : Int)) = false := decide_eq_false (by omega)
        refine AnyOrder.wpOp_go rfl (by rfl) ?_
        go_wp2_with fail
        exact ⟨true, l1, true, true, l4, l5, l6, l7, l8, l9, l10, l11, l12, l13, l14, rfl, rfl, HF⟩
       ·
        obtain rfl : l4 = false := (AnyOrder.mem_ready hi).2.1
        obtain rfl : l3 = true := AnyOrder.dep (q := 0) hi rfl rfl rfl
        clear hi
        simp only [sel_true, selv_true] at hK ⊢
        refine AnyOrder.wpOp_go rfl (by rfl) ?_
        go_wp2_with fail
        exact ⟨l0, l1, l2, true, true, l5, l6, l7, l8, l9, l10, l11, l12, l13, l14, rfl, rfl, HF⟩
       ·
        obtain rfl : l5 = false := (AnyOrder.mem_ready hi).2.1
        obtain rfl : l4 = true := AnyOrder.dep (q := 0) hi rfl rfl rfl
        clear hi
        simp only [sel_true, selv_true] at hK ⊢
        refine AnyOrder.wpOp_out rfl (by rfl) ?_
        exact hK _ _ ⟨l0, l1, l2, l3, true, true, l6, l7, l8, l9, l10, l11, l12, l13, l14, rfl, rfl, HF⟩
       ·
        obtain rfl : l6 = false := (AnyOrder.mem_ready hi).2.1
        obtain rfl : l4 = true := AnyOrder.dep (q := 0) hi rfl rfl rfl
        clear hi
        simp only [sel_true, selv_true] at hK ⊢
        refine AnyOrder.wpOp_out rfl (by rfl) ?_
        exact hK _ _ ⟨l0, l1, l2, l3, true, l5, true, l7, l8, l9, l10, l11, l12, l13, l14, rfl, rfl, HF⟩
       ·
        obtain rfl : l7 = false := (AnyOrder.mem_ready hi).2.1
        obtain rfl : l5 = true := AnyOrder.dep (q := 0) hi rfl rfl rfl
        obtain rfl : l6 = true := AnyOrder.dep (q := 1) hi rfl rfl rfl
        obtain rfl : l4 = true := AnyOrder.dep (q := 2) hi rfl rfl rfl
        clear hi
        simp only [sel_true, selv_true] at hK ⊢
        refine AnyOrder.wpOp_out rfl (by rfl) ?_
        exact hK _ _ ⟨l0, l1, l2, l3, true, true, true, true, l8, l9, l10, l11, l12, l13, l14, rfl, rfl, HF⟩
       ·
        obtain rfl : l8 = false := (AnyOrder.mem_ready hi).2.1
        obtain rfl : l7 = true := AnyOrder.dep (q := 0) hi rfl rfl rfl
        obtain rfl : l4 = true := AnyOrder.dep (q := 1) hi rfl rfl rfl
        clear hi
        simp only [sel_true, selv_true] at hK ⊢
        refine AnyOrder.wpOp_out rfl (by rfl) ?_
        exact hK _ _ ⟨l0, l1, l2, l3, true, l5, l6, true, true, l9, l10, l11, l12, l13, l14, rfl, rfl, HF⟩
       ·
        obtain rfl : l9 = false := (AnyOrder.mem_ready hi).2.1
        obtain rfl : l4 = true := AnyOrder.dep (q := 0) hi rfl rfl rfl
        clear hi
        simp only [sel_true, selv_true] at hK ⊢
        refine AnyOrder.wpOp_out rfl (by rfl) ?_
        exact hK _ _ ⟨l0, l1, l2, l3, true, l5, l6, l7, l8, true, l10, l11, l12, l13, l14, rfl, rfl, HF⟩
       ·
        obtain rfl : l10 = false := (AnyOrder.mem_ready hi).2.1
        obtain rfl : l4 = true := AnyOrder.dep (q := 0) hi rfl rfl rfl
        clear hi
        simp only [sel_true, selv_true] at hK ⊢
        refine AnyOrder.wpOp_out rfl (by rfl) ?_
        exact hK _ _ ⟨l0, l1, l2, l3, true, l5, l6, l7, l8, l9, true, l11, l12, l13, l14, rfl, rfl, HF⟩
       ·
        obtain rfl : l11 = false := (AnyOrder.mem_ready hi).2.1
        obtain rfl : l9 = true := AnyOrder.dep (q := 0) hi rfl rfl rfl
        obtain rfl : l10 = true := AnyOrder.dep (q := 1) hi rfl rfl rfl
        obtain rfl : l4 = true := AnyOrder.dep (q := 2) hi rfl rfl rfl
        clear hi
        simp only [sel_true, selv_true] at hK ⊢
        refine AnyOrder.wpOp_out rfl (by rfl) ?_
        exact hK _ _ ⟨l0, l1, l2, l3, true, l5, l6, l7, l8, true, true, true, l12, l13, l14, rfl, rfl, HF⟩
       ·
        obtain rfl : l12 = false := (AnyOrder.mem_ready hi).2.1
        obtain rfl : l11 = true := AnyOrder.dep (q := 0) hi rfl rfl rfl
        obtain rfl : l4 = true := AnyOrder.dep (q := 1) hi rfl rfl rfl
        clear hi
        simp only [sel_true, selv_true] at hK ⊢
        refine AnyOrder.wpOp_out rfl (by rfl) ?_
        exact hK _ _ ⟨l0, l1, l2, l3, true, l5, l6, l7, l8, l9, l10, true, true, l13, l14, rfl, rfl, HF⟩
       ·
        obtain rfl : l13 = false := (AnyOrder.mem_ready hi).2.1
        obtain rfl : l8 = true := AnyOrder.dep (q := 0) hi rfl rfl rfl
        obtain rfl : l12 = true := AnyOrder.dep (q := 1) hi rfl rfl rfl
        obtain rfl : l4 = true := AnyOrder.dep (q := 2) hi rfl rfl rfl
        clear hi
        simp only [sel_true, selv_true] at hK ⊢
        refine AnyOrder.wpOp_out rfl (by rfl) ?_
        exact hK _ _ ⟨l0, l1, l2, l3, true, l5, l6, l7, true, l9, l10, l11, true, true, l14, rfl, rfl, HF⟩
       ·
        obtain rfl : l14 = false := (AnyOrder.mem_ready hi).2.1
        obtain rfl : l4 = true := AnyOrder.dep (q := 0) hi rfl rfl rfl
        obtain rfl : l13 = true := AnyOrder.dep (q := 1) hi rfl rfl rfl
        clear hi
        simp only [sel_true, selv_true] at hK ⊢
        refine AnyOrder.wpOp_go rfl (by rfl) ?_
        go_wp2_with fail
        exact ⟨l0, l1, l2, l3, true, l5, l6, l7, l8, l9, l10, l11, l12, true, true, rfl, rfl, HF⟩
      case last =>
       rintro L ac V ⟨l0, l1, l2, l3, l4, l5, l6, l7, l8, l9, l10, l11, l12, l13, l14, rfl, rfl, HF⟩ hr
       have hall := AnyOrder.all_listed rfl (by kernel_rfl) hr
       clear hr
       obtain rfl : l0 = true := hall 0 (by decide)
       obtain rfl : l1 = true := hall 1 (by decide)
       obtain rfl : l2 = true := hall 2 (by decide)
       obtain rfl : l3 = true := hall 3 (by decide)
       obtain rfl : l4 = true := hall 4 (by decide)
       obtain rfl : l5 = true := hall 5 (by decide)
       obtain rfl : l6 = true := hall 6 (by decide)
       obtain rfl : l7 = true := hall 7 (by decide)
       obtain rfl : l8 = true := hall 8 (by decide)
       obtain rfl : l9 = true := hall 9 (by decide)
       obtain rfl : l10 = true := hall 10 (by decide)
       obtain rfl : l11 = true := hall 11 (by decide)
       obtain rfl : l12 = true := hall 12 (by decide)
       obtain rfl : l13 = true := hall 13 (by decide)
       obtain rfl : l14 = true := hall 14 (by decide)
       clear hall
       simp only [sel_true, selv_true]
       have HHF := Aside0.mk (below_more (below_drew1 HB2.out) HF.out)
       clear HF
       generalize V = V9 at *
       have HHO9 := Aside0.mk (RN.C (RN.below' HHO.out (below_drew1 HHF.out)))
       have HB9 := Aside0.mk (below_more HHB.out (below_drew1 HHF.out))
       obtain ⟨ad', e, g0, g1, g2, g3, g4, g5⟩ := node_at HR.out HB9.out i' x Hx.out
       cases e
       have HG := Aside0.mk (And.intro g0 (And.intro g1 (And.intro g2 (And.intro g3 (And.intro g4 g5)))))
       have HKC : Aside0 (k ≤ k ∧ k ≤ 400000) := ⟨⟨Nat.le_refl _, HNO.out⟩⟩
       clear g0 g1 g2 g3 g4 g5
       obtain ⟨out, Hout⟩ : ∃ out, Aside0 (kids (l0.take i') d = out) := ⟨_, ⟨rfl⟩⟩
       rw [Hout.out] at HHO9 HCUT HST
       obtain ⟨m3, Hm3⟩ : ∃ m3, Aside0 (k - k = m3) := ⟨_, ⟨rfl⟩⟩
       obtain ⟨q3, Hq3⟩ : ∃ q3, Aside0 (co - k = q3) := ⟨_, ⟨rfl⟩⟩
       obtain ⟨Ac, HAc⟩ : ∃ Ac, Aside0 ((if co = k then Ao else Option.map (·.add (k * 6)) Ao) = Ac) := ⟨_, ⟨rfl⟩⟩
       have HCD : Aside0 (Kd.C k35 V9.drew Ac m3 (out.drop k)) := ⟨by rw [← HAc.out, ← Hm3.out]; exact C_from HHO9.out.2.2 HHO9.out.1 HKC.out.1 HHO9.out.2.1⟩
       have HCF : Aside0 (∀ W, (Instr.sliceAt 22 (.slice Ao k co) (some (.int .i64 (k : Int))) none none).run Tryz.prog W = .ok (.slice Ac m3 q3) W) := ⟨fun W => by rw [← HAc.out, ← Hm3.out, ← Hq3.out]; exact cut_fromN HKC.out.1 W⟩
       go_wp2_with fail
       refine AnyOrder.wp_region (by kernel_rfl) (rc9Inv V9.drew ad Ao Ac n c0 i' k k co m3 q3 x out _ _ _ _ _ _ _ _ _ _ _ _ _ _ _ _ _ _ _ _ _ _ _ _ _ _ _ _ _ _ _ _ _ _ _ _ _ _ _ _ _ _ _ _ _ _ _ _ _) ⟨false, false, false, false, false, false, false, false, false, false, false, false, false, false, false, 0, undef, undef, undef, rfl, rfl, ⟨⟨fun h => (by cases h), fun h => (by cases h), fun h => (by cases h), Below.refl _ _, fun h _ => (by cases h), fun h _ => (by cases h), fun h _ => (by cases h), fun h => (by cases h)⟩⟩⟩ ?step ?last
       case step =>
        rintro L ac V i ⟨l0, l1, l2, l3, l4, l5, l6, l7, l8, l9, l10, l11, l12, l13, l14, g, v1, v2, v3, rfl, rfl, HF⟩ hi K hK
        have h1 : i = 0 ∨ i = 1 ∨ i = 2 ∨ i = 3 ∨ i = 4 ∨ i = 5 ∨ i = 6 ∨ i = 7 ∨ i = 8 ∨ i = 9 ∨ i = 10 ∨ i = 11 ∨ i = 12 ∨ i = 13 ∨ i = 14 := by
         have h1 := (AnyOrder.mem_ready hi).1
         clear hi hK
         change i < 15 at h1
         omega
        rcases h1 with rfl | rfl | rfl | rfl | rfl | rfl | rfl | rfl | rfl | rfl | rfl | rfl | rfl | rfl | rfl
        ·
         obtain rfl : l0 = false := (AnyOrder.mem_ready hi).2.1
         clear hi
         obtain rfl : l14 = false := by cases l14 with | false => rfl | true => cases (HF.out.ord14 rfl).2.1
         (try simp only [sel_false, selv_false] at hK ⊢)
         refine AnyOrder.wpOp_go rfl (by rfl) ?_
         go_wp2_with fail
         exact ⟨true, l1, l2, l3, l4, l5, l6, l7, l8, l9, l10, l11, l12, l13, false, g, v1, v2, v3, rfl, rfl, ⟨⟨HF.out.ord9, HF.out.ord13, fun h => (by cases h), HF.out.below, HF.out.r1, HF.out.bx, HF.out.r2, HF.out.r3⟩⟩⟩
        ·
         obtain rfl : l1 = false := (AnyOrder.mem_ready hi).2.1
         clear hi
         refine AnyOrder.wpOp_go rfl (by rfl) ?_
         go_wp2_with fail
         exact ⟨l0, true, l2, l3, l4, l5, l6, l7, l8, l9, l10, l11, l12, l13, l14, g, v1, v2, v3, rfl, rfl, HF⟩
        ·
         obtain rfl : l2 = false := (AnyOrder.mem_ready hi).2.1
         obtain rfl : l0 = true := AnyOrder.dep (q := 0) hi rfl rfl rfl
         obtain rfl : l1 = true := AnyOrder.dep (q := 1) hi rfl rfl rfl
         clear hi
         simp only [sel_true, selv_true] at hK ⊢
         refine AnyOrder.wpOp_go rfl (by rfl) ?_
         refine op_slice 22 (.tmp 38) none (some (.tmp 39)) rfl rfl rfl rfl (cut_toN HKC.out.1 HHO9.out.2.1 V) ?_
         exact hK _ _ ⟨true, true, true, l3, l4, l5, l6, l7, l8, l9, l10, l11, l12, l13, l14, g, v1, v2, v3, rfl, rfl, HF⟩
        ·
         obtain rfl : l3 = false := (AnyOrder.mem_ready hi).2.1
         obtain rfl : l2 = true := AnyOrder.dep (q := 0) hi rfl rfl rfl
         clear hi
         simp only [sel_true, selv_true] at hK ⊢
         obtain ⟨rfl, rfl, rfl⟩ := HF.out.no (.inl rfl)
         refine AnyOrder.wpOp_go rfl (by rfl) ?_
         refine op_append_node V9.drew.heap.size rfl (.const (.slice none 0 0)) (.tmp 40) rfl (.slice none 0 0) [] (out.take k) Ao k co rfl rfl (Kd.R_nil _ _ _ _ _) (C_to (Kd.C_below HHO9.out.2.2 HF.out.below) HHO9.out.1 HKC.out.1) HF.out.below.size (by have h1 := HKC.out.1; have h2 := HKC.out.2; simp; omega) ?_
         intro u1 V1 hr1 hg1 _
         have hb1 := grown_nil hg1
         exact hK _ _ ⟨l0, l1, true, true, l4, l5, l6, l7, l8, false, l10, l11, l12, false, false, g, u1, v2, v3, rfl, rfl, ⟨⟨fun h => (by cases h), fun h => (by cases h), fun h => (by cases h), below_more HF.out.below hb1, fun _ _ => hr1, fun h _ => blk_keep (HF.out.bx h rfl) hb1, fun h _ => (by cases h), fun h => (by cases h)⟩⟩⟩
        ·
         obtain rfl : l4 = false := (AnyOrder.mem_ready hi).2.1
         clear hi
         refine AnyOrder.wpOp_go rfl (by rfl) ?_
         go_wp2_with fail
         exact ⟨l0, l1, l2, l3, true, l5, l6, l7, l8, l9, l10, l11, l12, l13, l14, g, v1, v2, v3, rfl, rfl, HF⟩
        ·
         obtain rfl : l5 = false := (AnyOrder.mem_ready hi).2.1
         clear hi
         refine AnyOrder.wpOp_go rfl (by rfl) ?_
         go_wp2_with fail
         exact ⟨l0, l1, l2, l3, l4, true, l6, l7, l8, l9, l10, l11, l12, l13, l14, g, v1, v2, v3, rfl, rfl, HF⟩
        ·
         obtain rfl : l6 = false := (AnyOrder.mem_ready hi).2.1
         obtain rfl : l4 = true := AnyOrder.dep (q := 0) hi rfl rfl rfl
         obtain rfl : l5 = true := AnyOrder.dep (q := 1) hi rfl rfl rfl
         clear hi
         simp only [sel_true, selv_true] at hK ⊢
         have hkk := HXI.out.1
         have hkl2 := HXI.out.2
         refine AnyOrder.wpOp_go rfl (by rfl) ?_
         go_wp2_with fail
         exact ⟨l0, l1, l2, l3, true, true, true, l7, l8, l9, l10, l11, l12, l13, l14, g, v1, v2, v3, rfl, rfl, HF⟩
        ·
         obtain rfl : l7 = false := (AnyOrder.mem_ready hi).2.1
         obtain rfl : l6 = true := AnyOrder.dep (q := 0) hi rfl rfl rfl
         clear hi
         simp only [sel_true, selv_true] at hK ⊢
         obtain ⟨g0, g1, g2, g3, g4, g5⟩ := HG.out
         have g0 := pw_cell_below HF.out.below g0
         have g1 := pw_cell_below HF.out.below g1
         have g2 := pw_cell_below HF.out.below g2
         have g3 := pw_cell_below HF.out.below g3
         have g4 := pw_cell_below HF.out.below g4
         have g5 := pw_cell_below HF.out.below g5
         refine AnyOrder.wpOp_go rfl (by rfl) ?_
         go_wp2_with fail
         exact ⟨l0, l1, l2, l3, l4, l5, true, true, l8, l9, l10, l11, l12, l13, l14, g, v1, v2, v3, rfl, rfl, HF⟩
        ·
         obtain rfl : l8 = false := (AnyOrder.mem_ready hi).2.1
         obtain rfl : l7 = true := AnyOrder.dep (q := 0) hi rfl rfl rfl
         clear hi
         simp only [sel_true, selv_true] at hK ⊢
         obtain ⟨rfl, rfl, rfl⟩ := HF.out.no (.inr rfl)
         have hb1 := (Gr.alloc V (boxN x)).below
         refine AnyOrder.wpOp_go rfl (by rfl) ?_
         go_wp2_with fail
         exact ⟨l0, l1, l2, l3, l4, l5, l6, true, true, false, l10, l11, l12, false, false, V.heap.size, v1, v2, v3, rfl, rfl, ⟨⟨fun h => (by cases h), fun h => (by cases h), fun h => (by cases h), below_more HF.out.below hb1, fun h _ => RN.below' (HF.out.r1 h rfl) hb1, fun _ _ => blk_new _ _, fun h _ => (by cases h), fun h => (by cases h)⟩⟩⟩
        ·
         obtain rfl : l9 = false := (AnyOrder.mem_ready hi).2.1
         obtain rfl : l3 = true := AnyOrder.dep (q := 0) hi rfl rfl rfl
         obtain rfl : l8 = true := AnyOrder.dep (q := 1) hi rfl rfl rfl
         clear hi
         simp only [sel_true, selv_true] at hK ⊢
         obtain rfl : l13 = false := by cases l13 with | false => rfl | true => cases HF.out.ord13 rfl
         obtain rfl : l14 = false := by cases l14 with | false => rfl | true => cases (HF.out.ord14 rfl).1
         have hr1 := HF.out.r1 rfl rfl
         refine AnyOrder.wpOp_go rfl (by rfl) ?_
         refine op_append_node V9.drew.heap.size rfl (.tmp 41) (.tmp 46) rfl v1 (out.take k) [x] (some ⟨g, 0, none⟩) 1 1 rfl rfl hr1 (boxN_C (HF.out.bx rfl rfl)) HF.out.below.size (by have h1 := HKC.out.1; have h2 := HKC.out.2; rw [List.length_take]; omega) ?_
         intro u2 V2 hr2 hg2 _
         exact hK _ _ ⟨l0, l1, l2, true, l4, l5, l6, l7, true, true, l10, l11, l12, false, false, g, v1, u2, v3, rfl, rfl, ⟨⟨fun _ => ⟨rfl, rfl⟩, fun h => (by cases h), fun h => (by cases h), grown_below HF.out.below hr1 hg2, fun _ h => (by cases h), fun _ h => (by cases h), fun _ _ => hr2, fun h => (by cases h)⟩⟩⟩
        ·
         obtain rfl : l10 = false := (AnyOrder.mem_ready hi).2.1
         clear hi
         obtain rfl : l14 = false := by cases l14 with | false => rfl | true => cases (HF.out.ord14 rfl).2.2
         (try simp only [sel_false, selv_false] at hK ⊢)
         refine AnyOrder.wpOp_go rfl (by rfl) ?_
         go_wp2_with fail
         exact ⟨l0, l1, l2, l3, l4, l5, l6, l7, l8, l9, true, l11, l12, l13, false, g, v1, v2, v3, rfl, rfl, ⟨⟨HF.out.ord9, HF.out.ord13, fun h => (by cases h), HF.out.below, HF.out.r1, HF.out.bx, HF.out.r2, HF.out.r3⟩⟩⟩
        ·
         obtain rfl : l11 = false := (AnyOrder.mem_ready hi).2.1
         clear hi
         refine AnyOrder.wpOp_go rfl (by rfl) ?_
         go_wp2_with fail
         exact ⟨l0, l1, l2, l3, l4, l5, l6, l7, l8, l9, l10, true, l12, l13, l14, g, v1, v2, v3, rfl, rfl, HF⟩
        ·
         obtain rfl : l12 = false := (AnyOrder.mem_ready hi).2.1
         obtain rfl : l10 = true := AnyOrder.dep (q := 0) hi rfl rfl rfl
         obtain rfl : l11 = true := AnyOrder.dep (q := 1) hi rfl rfl rfl
         clear hi
         simp only [sel_true, selv_true] at hK ⊢
         refine AnyOrder.wpOp_go rfl (by rfl) ?_
         refine op_slice 22 (.tmp 48) (some (.tmp 49)) none rfl rfl rfl rfl (HCF.out V) ?_
         exact hK _ _ ⟨l0, l1, l2, l3, l4, l5, l6, l7, l8, l9, true, true, true, l13, l14, g, v1, v2, v3, rfl, rfl, HF⟩
        ·
         obtain rfl : l13 = false := (AnyOrder.mem_ready hi).2.1
         obtain rfl : l9 = true := AnyOrder.dep (q := 0) hi rfl rfl rfl
         obtain rfl : l12 = true := AnyOrder.dep (q := 1) hi rfl rfl rfl
         clear hi
         simp only [sel_true, selv_true] at hK ⊢
         obtain rfl : l14 = false := by cases l14 with | false => rfl | true => cases (HF.out.ord14 rfl).1
         have hr2 := HF.out.r2 rfl rfl
         refine AnyOrder.wpOp_go rfl (by rfl) ?_
         refine op_append_node V9.drew.heap.size rfl (.tmp 47) (.tmp 50) rfl v2 (out.take k ++ [x]) (out.drop k) Ac m3 q3 rfl rfl hr2 (Kd.C_below HCD.out HF.out.below) HF.out.below.size (by have h1 := HKC.out.1; have h2 := HKC.out.2; have h3 := Hm3.out; rw [List.length_append, List.length_take, List.length_singleton]; omega) ?_
         intro u3 V3 hr3 hg3 _
         exact hK _ _ ⟨l0, l1, l2, l3, l4, l5, l6, l7, l8, true, l10, l11, true, true, false, g, v1, v2, u3, rfl, rfl, ⟨⟨HF.out.ord9, fun _ => rfl, fun h => (by cases h), grown_below HF.out.below hr2 hg3, fun _ h => (by cases h), fun _ h => (by cases h), fun _ h => (by cases h), fun _ => by rw [HCUT.out]; exact hr3⟩⟩⟩
        ·
         obtain rfl : l14 = false := (AnyOrder.mem_ready hi).2.1
         obtain rfl : l13 = true := AnyOrder.dep (q := 0) hi rfl rfl rfl
         obtain rfl : l0 = true := AnyOrder.dep (q := 2) hi rfl rfl rfl
         obtain rfl : l1 = true := AnyOrder.dep (q := 3) hi rfl rfl rfl
         obtain rfl : l2 = true := AnyOrder.dep (q := 4) hi rfl rfl rfl
         obtain rfl : l3 = true := AnyOrder.dep (q := 5) hi rfl rfl rfl
         obtain rfl : l4 = true := AnyOrder.dep (q := 6) hi rfl rfl rfl
         obtain rfl : l5 = true := AnyOrder.dep (q := 7) hi rfl rfl rfl
         obtain rfl : l6 = true := AnyOrder.dep (q := 8) hi rfl rfl rfl
         obtain rfl : l7 = true := AnyOrder.dep (q := 9) hi rfl rfl rfl
         obtain rfl : l8 = true := AnyOrder.dep (q := 10) hi rfl rfl rfl
         obtain rfl : l9 = true := AnyOrder.dep (q := 11) hi rfl rfl rfl
         obtain rfl : l10 = true := AnyOrder.dep (q := 12) hi rfl rfl rfl
         obtain rfl : l11 = true := AnyOrder.dep (q := 13) hi rfl rfl rfl
         obtain rfl : l12 = true := AnyOrder.dep (q := 14) hi rfl rfl rfl
         clear hi
         simp only [sel_true, selv_true] at hK ⊢
         refine AnyOrder.wpOp_go rfl (by rfl) ?_
         go_wp2_with fail
         exact ⟨true, true, true, true, true, true, true, true, true, true, true, true, true, true, true, g, v1, v2, v3, rfl, rfl, ⟨⟨HF.out.ord9, HF.out.ord13, fun _ => ⟨rfl, rfl, rfl⟩, HF.out.below, HF.out.r1, HF.out.bx, HF.out.r2, HF.out.r3⟩⟩⟩
       case last =>
        rintro L ac V ⟨l0, l1, l2, l3, l4, l5, l6, l7, l8, l9, l10, l11, l12, l13, l14, g, v1, v2, v3, rfl, rfl, HF⟩ hr
        have hall := AnyOrder.all_listed rfl (by kernel_rfl) hr
        clear hr
        obtain rfl : l0 = true := hall 0 (by decide)
        obtain rfl : l1 = true := hall 1 (by decide)
        obtain rfl : l2 = true := hall 2 (by decide)
        obtain rfl : l3 = true := hall 3 (by decide)
        obtain rfl : l4 = true := hall 4 (by decide)
        obtain rfl : l5 = true := hall 5 (by decide)
        obtain rfl : l6 = true := hall 6 (by decide)
        obtain rfl : l7 = true := hall 7 (by decide)
        obtain rfl : l8 = true := hall 8 (by decide)
        obtain rfl : l9 = true := hall 9 (by decide)
        obtain rfl : l10 = true := hall 10 (by decide)
        obtain rfl : l11 = true := hall 11 (by decide)
        obtain rfl : l12 = true := hall 12 (by decide)
        obtain rfl : l13 = true := hall 13 (by decide)
        obtain rfl : l14 = true := hall 14 (by decide)
        clear hall
        simp only [sel_true, selv_true]
        have HR3 := Aside0.mk (HF.out.r3 rfl)
        have HB3 := Aside0.mk (below_more HB9.out HF.out.below)
        have HK3 := Aside0.mk (blk_keep (blk_keep HHK.out (below_drew1 HHF.out)) HF.out.below)
        have hn4 := HXI.out.2
        obtain ⟨A3, c3, rfl⟩ := RN.slice HR3.out
        obtain ⟨n3, hn3⟩ : ∃ n3, (insB x out).length = n3 := ⟨_, rfl⟩
        rw [hn3] at HR3 ⊢
        clear HF hn3
        go_wp2
        go_roundw
        case rel => exact ⟨i' + 1, A3, n3, c3, by omega, by go_num, rfl, ⟨by rw [HST.out]; exact Kd.R_lower HR3.out HB9.out.size⟩, HK3, HB3⟩
        case measure => simp [intOf] <;> omega
   ·
    have hne : (x.f1.f0 == d.f0 && (x.f1.f1 == d.f1)) = false := by
     rw [Bool.eq_false_iff]
     intro h
     simp only [Bool.and_eq_true, beq_iff_eq] at h
     exact hxd (Dot.ext_iff'.2 h)
    rw [if_neg hxd] at HST
    clear hxd
    go_wp2
    go_quiet (fail)
    have hd := (Gr.drawn (w := wr) ⟨nq, rfl⟩).below
    go_wp2
    go_roundw
    case rel => exact ⟨i' + 1, Ao, no, co, by omega, by go_num, rfl, ⟨by rw [HST.out]; exact RN.below' HO.out hd⟩, ⟨blk_keep HK.out hd⟩, ⟨below_more HB.out hd⟩⟩
    case measure => simp [intOf] <;> omega
  ·
   obtain rfl : i' = n := by omega
   have hltb : decide ((i' : Int) < (i' : Int)) = false := decide_eq_false (by omega)
   have hall : l0.take i' = l0 := List.take_of_length_le (Nat.le_of_eq Hn.out)
   rw [hall] at HO
   go_wp2
   go_ret
   exact ⟨_, rfl, HO.out, HB.out⟩
end Go.Proofs.YtjlpaagnajmogaaGreat.PWalk
end
section
namespace Go.Proofs.YtjlpaagnajmogaaGreat.PWalk
open Go.RowKit Go.Proofs.YtjlpaagnajmogaaGreatW.PrintWords Go.Proofs.YtjlpaagnajmogaaGreatW.PrintLast Go.Proofs.YtjlpaagnajmogaaGreatW.PrintMore
set_option linter.unusedVariables false
set_option linter.unusedSimpArgs false
open Go.Shelf
attribute [local go_sem] Oper.semAt_some
def redpencilref11_Below.f (l0 : List Node) (a1_0 a1_1 : Int) : Option (List Node) := if l0.length ≤ 400000 ∧ storeOk l0 = true ∧ (pathOf l0 ⟨a1_0, a1_1⟩).isSome = true then some (belowL l0 ⟨a1_0, a1_1⟩) else none
theorem belowL_le {l : List Node} (hs : Store l) {d : Dot} {U : List Node} (h : Path l d U) : (belowL l d).length ≤ l.length := by
 unfold belowL nds
 rw [List.length_map]
 exact below_le hs h 0
def upTo (l : List Node) (d : Dot) (i : Nat) : List Node := ((kids l d).take i).flatMap fun x => x :: belowL l x.f0
theorem upTo_succ {l : List Node} {d : Dot} {i : Nat} {x : Node} (h : (kids l d)[i]? = some x) : upTo l d (i + 1) = upTo l d i ++ [x] ++ belowL l x.f0 := by
 unfold upTo
 rw [List.take_succ_eq_append_getElem (List.getElem?_eq_some_iff.1 h).1, (List.getElem?_eq_some_iff.1 h).2, List.flatMap_append]
 simp
theorem upTo_le {l : List Node} (hs : Store l) {d : Dot} {U : List Node} (h : Path l d U) (i : Nat) : (upTo l d i).length ≤ l.length := by
 refine Nat.le_trans ?_ (belowL_le hs h)
 rw [belowL_kids hs h]
 conv => rhs; rw [← List.take_append_drop i (kids l d), List.flatMap_append, List.length_append]
 exact Nat.le_add_right _ _
/-- What has come up in a round. -/
structure RbF (W1 W0 : World) (u : Value) (out : List Node) (x : Node) (bl : List Node) (l0 l5 l6 l13 l14 l15 : Bool) (g : Nat) (v1 v2 v3 : Value) (V : World) : Prop where
 ord6 : l6 = true → l5 = true
 ord14 : l14 = true → l6 = true ∧ l13 = true
 ord15 : l15 = true → l14 = true ∧ l0 = true
 below : Below W1.heap.size W1 V
 size : W0.heap.size ≤ V.heap.size
 r0 : l6 = false → RN V W1.heap.size u out
 bx : l5 = true → l6 = false → V.heap[g]? = some (boxN x)
 r1 : l6 = true → l14 = false → RN V W1.heap.size v1 (out ++ [x])
 r2 : l13 = true → l14 = false → RN V W0.heap.size v2 bl
 r3 : l14 = true → RN V W1.heap.size v3 (out ++ [x] ++ bl)
def rb6Inv (W1 W0 : World) (A0 Ao : Option Addr) (ad : Addr) (n c0 no co q cc k : Nat) (x : Node) (out bl : List Node) (z1 z2 z3 z4 z8 z9 z10 z11 z12 z13 z14 z15 z16 z17 z18 z19 z20 z21 z22 z23 z24 z25 z26 z27 z28 z29 z30 z31 z32 : Value) (L : Array Bool) (ac : Act) (V : World) : Prop := ∃ (l0 l1 l2 l3 l4 l5 l6 l7 l8 l9 l10 l11 l12 l13 l14 l15 : Bool) (g : Nat) (v1 : Value) (v2 : Value) (v3 : Value), L = #[l0, l1, l2, l3, l4, l5, l6, l7, l8, l9, l10, l11, l12, l13, l14, l15] ∧ ac = { tmps := #[.slice A0 n c0, z1, z2, z3, z4, selv l15 (v3) (.slice Ao no co), .slice (some ad) q cc, .int .i64 (k : Int), z8, z9, z10, z11, z12, z13, z14, z15, z16, selv l0 (.slice Ao no co) (z17), selv l1 (.slice (some ad) q cc) (z18), selv l2 (.int .i64 (k : Int)) (z19), selv l3 (.pointer (some (ad.add (k * 6)))) (z20), selv l4 (vNode x) (z21), selv l5 (.slice (some ⟨g, 0, none⟩) 1 1) (z22), selv l6 (v1) (z23), selv l7 (.slice A0 n c0) (z24), selv l8 (.slice (some ad) q cc) (z25), selv l9 (.int .i64 (k : Int)) (z26), selv l10 (.pointer (some (ad.add (k * 6)))) (z27), selv l11 (.pointer (some (ad.add (k * 6)))) (z28), selv l12 (vDot x.f0) (z29), selv l13 (v2) (z30), selv l14 (v3) (z31), z32], defers := [] } ∧ Aside0 (RbF W1 W0 (.slice Ao no co) out x bl l0 l5 l6 l13 l14 l15 g v1 v2 v3 V)
set_option maxHeartbeats 4000000 in
set_option maxRecDepth 100000 in
theorem refBelow_step (A0 : Option Addr) (n c0 : Nat) (ll : List Node) (d : Dot) (U : List Node) (w : World) (hn : ll.length = n) (hl : n ≤ 400000) (hs : Store ll) (hU : Path ll d U) (hr0 : Kd.C k35 w A0 n ll) (hc0 : n ≤ c0)
  (IH : ∀ x ∈ kids ll d, ∀ W, Below w.heap.size w W → Calls Tryz.prog 31 #[.slice A0 n c0, vDot x.f0] W fun e w' => ∃ v, e = .returned v ∧ RN w' W.heap.size v (belowL ll x.f0) ∧ Below W.heap.size W w') :
  Calls Tryz.prog 31 #[.slice A0 n c0, vDot d] w fun e w' => ∃ v, e = .returned v ∧ RN w' w.heap.size v (belowL ll d) ∧ Below w.heap.size w w' := by
 have HIH := Aside0.mk IH
 have HS := Aside0.mk hs
 have HU := Aside0.mk hU
 have Hn := Aside0.mk hn
 have HB0 := Aside0.mk (Gr.alloc w (dotC d)).below
 have HK0 := Aside0.mk (blk_new w (dotC d))
 have hch := redpencilref11_Children.calls A0 c0 ll d.f0 d.f1 (kids ll d) (w.alloc (dotC d)) (by rw [hn]; exact Kd.C_below hr0 HB0.out) (by rw [hn]; exact hc0) (by unfold redpencilref11_Children.f; rw [if_pos (by omega)])
 rw [hn] at hch
 have HCH := Aside0.mk hch
 have k0 : (w.alloc (dotC d)).cell? ⟨w.heap.size, 0, none⟩ = _ := (blk_cell HK0.out 0).trans rfl
 have k1 : (w.alloc (dotC d)).cell? ⟨w.heap.size, 1, none⟩ = _ := (blk_cell HK0.out 1).trans rfl
 have HL := Aside0.mk hl
 clear IH hs hU hn hch hr0 hc0
 go_enter Tryz.func31, Tryz.ntmps31
 go_wp2_with fail
 refine HCH.out.mono ?_
 rintro e W1 ⟨uc, rfl, hrc, hb⟩
 have HB1 := Aside0.mk (below_more HB0.out hb)
 obtain ⟨Ac, cc, rfl⟩ := RN.slice hrc
 obtain ⟨q, hq⟩ : ∃ q, (kids ll d).length = q := ⟨_, rfl⟩
 rw [hq] at hrc ⊢
 have HRC := Aside0.mk hrc
 have HQ : Aside0 (q ≤ 400000) := ⟨by have h1 := kids_le ll d; have h2 := Hn.out; omega⟩
 clear hrc hb k0 k1 HK0 HB0 HCH hq
 have hq4 := HQ.out
 go_wp2
 go_loopw [5, 7] (fun o i wr => ∃ (k : Nat) (Ao : Option Addr) (no co : Nat), k ≤ q ∧ i = .int .i64 k ∧ o = .slice Ao no co ∧ Aside0 (RN wr W1.heap.size (.slice Ao no co) (upTo ll d k)) ∧ Aside0 (Below W1.heap.size W1 wr)) (fun _ i _ => q - (intOf i).toNat)
 case atStart => exact ⟨0, none, 0, 0, Nat.zero_le _, rfl, rfl, ⟨Kd.R_nil _ _ _ _ _⟩, ⟨Below.refl _ _⟩⟩
 case round =>
  obtain ⟨k, Ao, no, co, hk, rfl, rfl, HO, HB⟩ := hrel
  by_cases hlt : k < q
  ·
   have hltb : decide ((k : Int) < (q : Int)) = true := decide_eq_true (by omega)
   obtain ⟨x, Hx⟩ : ∃ x, Aside0 ((kids ll d)[k]? = some x) := ⟨_, ⟨List.getElem?_eq_getElem (by rw [(RN.C HRC.out).1]; exact hlt)⟩⟩
   obtain ⟨ad, e, g0, g1, g2, g3, g4, g5⟩ := node_at (RN.C HRC.out).2.2 (below_drew1 HB.out) k x Hx.out
   subst e
   obtain ⟨ad', e, c1', c2', c3', c4', c5', c6'⟩ := node_at (RN.C HRC.out).2.2 (Below.refl _ W1) k x Hx.out
   cases e
   have H1C := Aside0.mk (And.intro c1' (And.intro c2' (And.intro c3' (And.intro c4' (And.intro c5' c6')))))
   clear c1' c2' c3' c4' c5' c6'
   have HG := Aside0.mk (And.intro g0 (And.intro g1 (And.intro g2 (And.intro g3 (And.intro g4 g5)))))
   have HKQ : Aside0 (k < q ∧ q ≤ 400000) := ⟨hlt, hq4⟩
   have HUS := Aside0.mk (upTo_succ (l := ll) (d := d) Hx.out)
   have HUL : Aside0 ((upTo ll d (k + 1)).length ≤ 400000) := ⟨Nat.le_trans (upTo_le HS.out HU.out _) (by rw [Hn.out]; exact HL.out)⟩
   have HIX := Aside0.mk (HIH.out x (List.mem_of_getElem? Hx.out))
   have HO9 := Aside0.mk (RN.below' HO.out (below_drew1 (Below.refl _ wr)))
   have HUB : Aside0 (∀ g, (Value.slice Ao no co).ownBlock = some g → g < wr.drew.heap.size) := ⟨fun g hg => by obtain ⟨_, cur, hc⟩ := HO9.out.block hg; exact blk_lt hc⟩
   have HB9 := Aside0.mk (below_drew1 HB.out)
   obtain ⟨out, Hout⟩ : ∃ out, Aside0 (upTo ll d k = out) := ⟨_, ⟨rfl⟩⟩
   obtain ⟨bl, Hbl⟩ : ∃ bl, Aside0 (belowL ll x.f0 = bl) := ⟨_, ⟨rfl⟩⟩
   rw [Hout.out] at HO9 HUS
   rw [Hbl.out] at HUS HIX
   have HLN : Aside0 (out.length + 1 + bl.length ≤ 400000) := ⟨by have := HUL.out; rw [HUS.out] at this; simp at this; omega⟩
   clear g0 g1 g2 g3 g4 g5
   go_wp2_with fail
   refine AnyOrder.wp_region (by kernel_rfl) (rb6Inv W1 wr.drew A0 Ao ad n c0 no co q cc k x out bl _ _ _ _ _ _ _ _ _ _ _ _ _ _ _ _ _ _ _ _ _ _ _ _ _ _ _ _ _) ⟨false, false, false, false, false, false, false, false, false, false, false, false, false, false, false, false, 0, undef, undef, undef, rfl, rfl, ⟨⟨fun h => (by cases h), fun h => (by cases h), fun h => (by cases h), HB9.out, Nat.le_refl _, fun _ => HO9.out, fun h _ => (by cases h), fun h _ => (by cases h), fun h _ => (by cases h), fun h => (by cases h)⟩⟩⟩ ?step ?last
   case step =>
    rintro L ac V i ⟨l0, l1, l2, l3, l4, l5, l6, l7, l8, l9, l10, l11, l12, l13, l14, l15, g, v1, v2, v3, rfl, rfl, HF⟩ hi K hK
    have h1 : i = 0 ∨ i = 1 ∨ i = 2 ∨ i = 3 ∨ i = 4 ∨ i = 5 ∨ i = 6 ∨ i = 7 ∨ i = 8 ∨ i = 9 ∨ i = 10 ∨ i = 11 ∨ i = 12 ∨ i = 13 ∨ i = 14 ∨ i = 15 := by
     have h1 := (AnyOrder.mem_ready hi).1
     clear hi hK
     change i < 16 at h1
     omega
    rcases h1 with rfl | rfl | rfl | rfl | rfl | rfl | rfl | rfl | rfl | rfl | rfl | rfl | rfl | rfl | rfl | rfl
    ·
     obtain rfl : l0 = false := (AnyOrder.mem_ready hi).2.1
     clear hi
     obtain rfl : l15 = false := by cases l15 with | false => rfl | true => cases (HF.out.ord15 rfl).2
     (try simp only [sel_false, selv_false] at hK ⊢)
     refine AnyOrder.wpOp_go rfl (by rfl) ?_
     go_wp2_with fail
     exact ⟨true, l1, l2, l3, l4, l5, l6, l7, l8, l9, l10, l11, l12, l13, l14, false, g, v1, v2, v3, rfl, rfl, ⟨⟨HF.out.ord6, HF.out.ord14, fun h => (by cases h), HF.out.below, HF.out.size, HF.out.r0, HF.out.bx, HF.out.r1, HF.out.r2, HF.out.r3⟩⟩⟩
    ·
     obtain rfl : l1 = false := (AnyOrder.mem_ready hi).2.1
     clear hi
     refine AnyOrder.wpOp_go rfl (by rfl) ?_
     go_wp2_with fail
     exact ⟨l0, true, l2, l3, l4, l5, l6, l7, l8, l9, l10, l11, l12, l13, l14, l15, g, v1, v2, v3, rfl, rfl, HF⟩
    ·
     obtain rfl : l2 = false := (AnyOrder.mem_ready hi).2.1
     clear hi
     refine AnyOrder.wpOp_go rfl (by rfl) ?_
     go_wp2_with fail
     exact ⟨l0, l1, true, l3, l4, l5, l6, l7, l8, l9, l10, l11, l12, l13, l14, l15, g, v1, v2, v3, rfl, rfl, HF⟩
    ·
     obtain rfl : l3 = false := (AnyOrder.mem_ready hi).2.1
     obtain rfl : l1 = true := AnyOrder.dep (q := 0) hi rfl rfl rfl
     obtain rfl : l2 = true := AnyOrder.dep (q := 1) hi rfl rfl rfl
     clear hi
     simp only [sel_true, selv_true] at hK ⊢
     have hkk := HKQ.out.1
     have hkl2 := HKQ.out.2
     refine AnyOrder.wpOp_go rfl (by rfl) ?_
     go_wp2_with fail
     exact ⟨l0, true, true, true, l4, l5, l6, l7, l8, l9, l10, l11, l12, l13, l14, l15, g, v1, v2, v3, rfl, rfl, HF⟩
    ·
     obtain rfl : l4 = false := (AnyOrder.mem_ready hi).2.1
     obtain rfl : l3 = true := AnyOrder.dep (q := 0) hi rfl rfl rfl
     clear hi
     simp only [sel_true, selv_true] at hK ⊢
     obtain ⟨g0, g1, g2, g3, g4, g5⟩ := HG.out
     have g0 : V.cell? _ = _ := (HF.out.below.cell (World.block_lt_of_cell? _ _ (H1C.out.1))).trans (H1C.out.1)
     have g1 : V.cell? _ = _ := (HF.out.below.cell (World.block_lt_of_cell? _ _ (H1C.out.2.1))).trans (H1C.out.2.1)
     have g2 : V.cell? _ = _ := (HF.out.below.cell (World.block_lt_of_cell? _ _ (H1C.out.2.2.1))).trans (H1C.out.2.2.1)
     have g3 : V.cell? _ = _ := (HF.out.below.cell (World.block_lt_of_cell? _ _ (H1C.out.2.2.2.1))).trans (H1C.out.2.2.2.1)
     have g4 : V.cell? _ = _ := (HF.out.below.cell (World.block_lt_of_cell? _ _ (H1C.out.2.2.2.2.1))).trans (H1C.out.2.2.2.2.1)
     have g5 : V.cell? _ = _ := (HF.out.below.cell (World.block_lt_of_cell? _ _ (H1C.out.2.2.2.2.2))).trans (H1C.out.2.2.2.2.2)
     refine AnyOrder.wpOp_go rfl (by rfl) ?_
     go_wp2_with fail
     exact ⟨l0, l1, l2, true, true, l5, l6, l7, l8, l9, l10, l11, l12, l13, l14, l15, g, v1, v2, v3, rfl, rfl, HF⟩
    ·
     obtain rfl : l5 = false := (AnyOrder.mem_ready hi).2.1
     obtain rfl : l4 = true := AnyOrder.dep (q := 0) hi rfl rfl rfl
     clear hi
     simp only [sel_true, selv_true] at hK ⊢
     obtain rfl : l6 = false := by cases l6 with | false => rfl | true => cases HF.out.ord6 rfl
     obtain rfl : l14 = false := by cases l14 with | false => rfl | true => cases (HF.out.ord14 rfl).1
     obtain rfl : l15 = false := by cases l15 with | false => rfl | true => cases (HF.out.ord15 rfl).1
     (try simp only [sel_false, selv_false] at hK ⊢)
     have hb1 := (Gr.alloc V (boxN x)).below
     refine AnyOrder.wpOp_go rfl (by rfl) ?_
     go_wp2_with fail
     exact ⟨l0, l1, l2, l3, true, true, false, l7, l8, l9, l10, l11, l12, l13, false, false, V.heap.size, v1, v2, v3, rfl, rfl, ⟨⟨fun h => (by cases h), fun h => (by cases h), fun h => (by cases h), below_more HF.out.below hb1, Nat.le_trans HF.out.size hb1.size, fun _ => RN.below' (HF.out.r0 rfl) hb1, fun _ _ => blk_new _ _, fun h _ => (by cases h), fun h _ => RN.below' (HF.out.r2 h rfl) hb1, fun h => (by cases h)⟩⟩⟩
    ·
     obtain rfl : l6 = false := (AnyOrder.mem_ready hi).2.1
     obtain rfl : l0 = true := AnyOrder.dep (q := 0) hi rfl rfl rfl
     obtain rfl : l5 = true := AnyOrder.dep (q := 1) hi rfl rfl rfl
     clear hi
     simp only [sel_true, selv_true] at hK ⊢
     obtain rfl : l14 = false := by cases l14 with | false => rfl | true => cases (HF.out.ord14 rfl).1
     obtain rfl : l15 = false := by cases l15 with | false => rfl | true => cases (HF.out.ord15 rfl).1
     (try simp only [sel_false, selv_false] at hK ⊢)
     have hr0 := HF.out.r0 rfl
     refine AnyOrder.wpOp_go rfl (by rfl) ?_
     refine op_append_node W1.heap.size rfl (.tmp 17) (.tmp 22) rfl (.slice Ao no co) out [x] (some ⟨g, 0, none⟩) 1 1 rfl rfl hr0 (boxN_C (HF.out.bx rfl rfl)) HF.out.below.size (by have := HLN.out; omega) ?_
     intro u1 V1 hr1 hg1 _
     exact hK _ _ ⟨true, l1, l2, l3, l4, true, true, l7, l8, l9, l10, l11, l12, l13, false, false, g, u1, v2, v3, rfl, rfl, ⟨⟨fun _ => rfl, fun h => (by cases h), fun h => (by cases h), grown_below HF.out.below hr0 hg1, Nat.le_trans HF.out.size hg1.size, fun h => (by cases h), fun _ h => (by cases h), fun _ _ => hr1, fun h _ => (HF.out.r2 h rfl).keep fun j hj => hg1.block j (by obtain ⟨_, cur, hc⟩ := (HF.out.r2 h rfl).block hj; exact blk_lt hc) (fun e => by have h5 := HUB.out j e.symm; have h6 := ((HF.out.r2 h rfl).block hj).1; omega), fun h => (by cases h)⟩⟩⟩
    ·
     obtain rfl : l7 = false := (AnyOrder.mem_ready hi).2.1
     clear hi
     refine AnyOrder.wpOp_go rfl (by rfl) ?_
     go_wp2_with fail
     exact ⟨l0, l1, l2, l3, l4, l5, l6, true, l8, l9, l10, l11, l12, l13, l14, l15, g, v1, v2, v3, rfl, rfl, HF⟩
    ·
     obtain rfl : l8 = false := (AnyOrder.mem_ready hi).2.1
     clear hi
     refine AnyOrder.wpOp_go rfl (by rfl) ?_
     go_wp2_with fail
     exact ⟨l0, l1, l2, l3, l4, l5, l6, l7, true, l9, l10, l11, l12, l13, l14, l15, g, v1, v2, v3, rfl, rfl, HF⟩
    ·
     obtain rfl : l9 = false := (AnyOrder.mem_ready hi).2.1
     clear hi
     refine AnyOrder.wpOp_go rfl (by rfl) ?_
     go_wp2_with fail
     exact ⟨l0, l1, l2, l3, l4, l5, l6, l7, l8, true, l10, l11, l12, l13, l14, l15, g, v1, v2, v3, rfl, rfl, HF⟩
    ·
     obtain rfl : l10 = false := (AnyOrder.mem_ready hi).2.1
     obtain rfl : l8 = true := AnyOrder.dep (q := 0) hi rfl rfl rfl
     obtain rfl : l9 = true := AnyOrder.dep (q := 1) hi rfl rfl rfl
     clear hi
     simp only [sel_true, selv_true] at hK ⊢
     have hkk := HKQ.out.1
     have hkl2 := HKQ.out.2
     refine AnyOrder.wpOp_go rfl (by rfl) ?_
     go_wp2_with fail
     exact ⟨l0, l1, l2, l3, l4, l5, l6, l7, true, true, true, l11, l12, l13, l14, l15, g, v1, v2, v3, rfl, rfl, HF⟩
    ·
     obtain rfl : l11 = false := (AnyOrder.mem_ready hi).2.1
     obtain rfl : l10 = true := AnyOrder.dep (q := 0) hi rfl rfl rfl
     clear hi
     simp only [sel_true, selv_true] at hK ⊢
     refine AnyOrder.wpOp_go rfl (by rfl) ?_
     go_wp2_with fail
     exact ⟨l0, l1, l2, l3, l4, l5, l6, l7, l8, l9, true, true, l12, l13, l14, l15, g, v1, v2, v3, rfl, rfl, HF⟩
    ·
     obtain rfl : l12 = false := (AnyOrder.mem_ready hi).2.1
     obtain rfl : l11 = true := AnyOrder.dep (q := 0) hi rfl rfl rfl
     clear hi
     simp only [sel_true, selv_true] at hK ⊢
     obtain ⟨g0, g1, g2, g3, g4, g5⟩ := HG.out
     have g0 : V.cell? _ = _ := (HF.out.below.cell (World.block_lt_of_cell? _ _ (H1C.out.1))).trans (H1C.out.1)
     have g1 : V.cell? _ = _ := (HF.out.below.cell (World.block_lt_of_cell? _ _ (H1C.out.2.1))).trans (H1C.out.2.1)
     have g2 : V.cell? _ = _ := (HF.out.below.cell (World.block_lt_of_cell? _ _ (H1C.out.2.2.1))).trans (H1C.out.2.2.1)
     have g3 : V.cell? _ = _ := (HF.out.below.cell (World.block_lt_of_cell? _ _ (H1C.out.2.2.2.1))).trans (H1C.out.2.2.2.1)
     have g4 : V.cell? _ = _ := (HF.out.below.cell (World.block_lt_of_cell? _ _ (H1C.out.2.2.2.2.1))).trans (H1C.out.2.2.2.2.1)
     have g5 : V.cell? _ = _ := (HF.out.below.cell (World.block_lt_of_cell? _ _ (H1C.out.2.2.2.2.2))).trans (H1C.out.2.2.2.2.2)
     refine AnyOrder.wpOp_go rfl (by rfl) ?_
     go_wp2_with fail
     exact ⟨l0, l1, l2, l3, l4, l5, l6, l7, l8, l9, l10, true, true, l13, l14, l15, g, v1, v2, v3, rfl, rfl, HF⟩
    ·
     obtain rfl : l13 = false := (AnyOrder.mem_ready hi).2.1
     obtain rfl : l7 = true := AnyOrder.dep (q := 0) hi rfl rfl rfl
     obtain rfl : l12 = true := AnyOrder.dep (q := 1) hi rfl rfl rfl
     obtain rfl : l6 = true := AnyOrder.dep (q := 2) hi rfl rfl rfl
     clear hi
     simp only [sel_true, selv_true] at hK ⊢
     obtain rfl : l14 = false := by cases l14 with | false => rfl | true => cases (HF.out.ord14 rfl).2
     obtain rfl : l15 = false := by cases l15 with | false => rfl | true => cases (HF.out.ord15 rfl).1
     (try simp only [sel_false, selv_false] at hK ⊢)
     refine AnyOrder.wpOp_go rfl (by rfl) ?_
     go_wp2_with fail
     refine (HIX.out V (below_more HB1.out HF.out.below)).mono ?_
     rintro e V' ⟨u2, rfl, hr2, hb1⟩
     exact hK _ _ ⟨l0, l1, l2, l3, l4, l5, true, true, l8, l9, l10, l11, true, true, false, false, g, v1, u2, v3, rfl, rfl, ⟨⟨HF.out.ord6, fun h => (by cases h), fun h => (by cases h), below_more HF.out.below hb1, Nat.le_trans HF.out.size hb1.size, fun h => RN.below' (HF.out.r0 h) hb1, fun h h' => blk_keep (HF.out.bx h h') hb1, fun h _ => RN.below' (HF.out.r1 h rfl) hb1, fun _ _ => Kd.R_lower hr2 HF.out.size, fun h => (by cases h)⟩⟩⟩
    ·
     obtain rfl : l14 = false := (AnyOrder.mem_ready hi).2.1
     obtain rfl : l6 = true := AnyOrder.dep (q := 0) hi rfl rfl rfl
     obtain rfl : l13 = true := AnyOrder.dep (q := 1) hi rfl rfl rfl
     clear hi
     simp only [sel_true, selv_true] at hK ⊢
     obtain rfl : l15 = false := by cases l15 with | false => rfl | true => cases (HF.out.ord15 rfl).1
     (try simp only [sel_false, selv_false] at hK ⊢)
     have hr1 := HF.out.r1 rfl rfl
     have hr2 := HF.out.r2 rfl rfl
     obtain ⟨A2, c2, rfl⟩ := RN.slice hr2
     obtain ⟨m2, hm2⟩ : ∃ m2, bl.length = m2 := ⟨_, rfl⟩
     rw [hm2] at hr2 HF
     (try rw [hm2] at hK)
     (try rw [hm2])
     refine AnyOrder.wpOp_go rfl (by rfl) ?_
     refine op_append_node W1.heap.size rfl (.tmp 23) (.tmp 30) rfl v1 (out ++ [x]) bl A2 m2 c2 rfl rfl hr1 (RN.C hr2).2.2 HF.out.below.size (by have := HLN.out; rw [List.length_append, List.length_singleton]; omega) ?_
     intro u3 V3 hr3 hg3 _
     exact hK _ _ ⟨l0, l1, l2, l3, l4, l5, true, l7, l8, l9, l10, l11, l12, true, true, false, g, v1, (.slice A2 m2 c2), u3, rfl, rfl, ⟨⟨HF.out.ord6, fun _ => ⟨rfl, rfl⟩, fun h => (by cases h), grown_below HF.out.below hr1 hg3, Nat.le_trans HF.out.size hg3.size, fun h => (by cases h), fun _ h => (by cases h), fun _ h => (by cases h), fun _ h => (by cases h), fun _ => hr3⟩⟩⟩
    ·
     obtain rfl : l15 = false := (AnyOrder.mem_ready hi).2.1
     obtain rfl : l14 = true := AnyOrder.dep (q := 0) hi rfl rfl rfl
     obtain rfl : l0 = true := AnyOrder.dep (q := 2) hi rfl rfl rfl
     obtain rfl : l1 = true := AnyOrder.dep (q := 3) hi rfl rfl rfl
     obtain rfl : l2 = true := AnyOrder.dep (q := 4) hi rfl rfl rfl
     obtain rfl : l3 = true := AnyOrder.dep (q := 5) hi rfl rfl rfl
     obtain rfl : l4 = true := AnyOrder.dep (q := 6) hi rfl rfl rfl
     obtain rfl : l5 = true := AnyOrder.dep (q := 7) hi rfl rfl rfl
     obtain rfl : l6 = true := AnyOrder.dep (q := 8) hi rfl rfl rfl
     obtain rfl : l7 = true := AnyOrder.dep (q := 9) hi rfl rfl rfl
     obtain rfl : l8 = true := AnyOrder.dep (q := 10) hi rfl rfl rfl
     obtain rfl : l9 = true := AnyOrder.dep (q := 11) hi rfl rfl rfl
     obtain rfl : l10 = true := AnyOrder.dep (q := 12) hi rfl rfl rfl
     obtain rfl : l11 = true := AnyOrder.dep (q := 13) hi rfl rfl rfl
     obtain rfl : l12 = true := AnyOrder.dep (q := 14) hi rfl rfl rfl
     obtain rfl : l13 = true := AnyOrder.dep (q := 15) hi rfl rfl rfl
     clear hi
     simp only [sel_true, selv_true] at hK ⊢
     refine AnyOrder.wpOp_go rfl (by rfl) ?_
     go_wp2_with fail
     exact ⟨true, true, true, true, true, true, true, true, true, true, true, true, true, true, true, true, g, v1, v2, v3, rfl, rfl, ⟨⟨HF.out.ord6, HF.out.ord14, fun _ => ⟨rfl, rfl⟩, HF.out.below, HF.out.size, HF.out.r0, HF.out.bx, HF.out.r1, HF.out.r2, HF.out.r3⟩⟩⟩
   case last =>
    rintro L ac V ⟨l0, l1, l2, l3, l4, l5, l6, l7, l8, l9, l10, l11, l12, l13, l14, l15, g, v1, v2, v3, rfl, rfl, HF⟩ hr
    have hall := AnyOrder.all_listed rfl (by kernel_rfl) hr
    clear hr
    obtain rfl : l0 = true := hall 0 (by decide)
    obtain rfl : l1 = true := hall 1 (by decide)
    obtain rfl : l2 = true := hall 2 (by decide)
    obtain rfl : l3 = true := hall 3 (by decide)
    obtain rfl : l4 = true := hall 4 (by decide)
    obtain rfl : l5 = true := hall 5 (by decide)
    obtain rfl : l6 = true := hall 6 (by decide)
    obtain rfl : l7 = true := hall 7 (by decide)
    obtain rfl : l8 = true := hall 8 (by decide)
    obtain rfl : l9 = true := hall 9 (by decide)
    obtain rfl : l10 = true := hall 10 (by decide)
    obtain rfl : l11 = true := hall 11 (by decide)
    obtain rfl : l12 = true := hall 12 (by decide)
    obtain rfl : l13 = true := hall 13 (by decide)
    obtain rfl : l14 = true := hall 14 (by decide)
    obtain rfl : l15 = true := hall 15 (by decide)
    clear hall
    simp only [sel_true, selv_true]
    have HR3 := Aside0.mk (HF.out.r3 rfl)
    have HB3 := Aside0.mk HF.out.below
    obtain ⟨A3, c3, rfl⟩ := RN.slice HR3.out
    obtain ⟨n3, hn3⟩ : ∃ n3, (out ++ [x] ++ bl).length = n3 := ⟨_, rfl⟩
    rw [hn3] at HR3 ⊢
    clear HF hn3
    go_wp2
    go_roundw
    case rel => exact ⟨k + 1, A3, n3, c3, by omega, by go_num, rfl, ⟨by rw [HUS.out]; exact HR3.out⟩, HB3⟩
    case measure => simp [intOf] <;> omega
  ·
   obtain rfl : k = q := by omega
   have hltb : decide ((k : Int) < (k : Int)) = false := decide_eq_false (by omega)
   have hall : upTo ll d k = belowL ll d := by unfold upTo; rw [List.take_of_length_le (Nat.le_of_eq (RN.C HRC.out).1), belowL_kids HS.out HU.out]
   rw [hall] at HO
   go_wp2
   go_ret
   exact ⟨_, rfl, Kd.R_lower HO.out HB1.out.size, below_more HB1.out HB.out⟩
theorem refBelow_call (A0 : Option Addr) (n c0 : Nat) (ll : List Node) (hn : ll.length = n) (hl : n ≤ 400000) (hs : Store ll) (hc0 : n ≤ c0) : ∀ (m : Nat) (d : Dot) (U : List Node) (w : World), Path ll d U → U.length + m = ll.length → Kd.C k35 w A0 n ll →
  Calls Tryz.prog 31 #[.slice A0 n c0, vDot d] w fun e w' => ∃ v, e = .returned v ∧ RN w' w.heap.size v (belowL ll d) ∧ Below w.heap.size w w' := by
 intro m
 induction m with
 | zero =>
  intro d U w hU hm hr0
  refine refBelow_step A0 n c0 ll d U w hn hl hs hU hr0 hc0 fun x hx => ?_
  have := hU.low hs 0 hm
  rw [show kids ll d = [] from this] at hx
  cases hx
 | succ m ih =>
  intro d U w hU hm hr0
  refine refBelow_step A0 n c0 ll d U w hn hl hs hU hr0 hc0 fun x hx W hb => ?_
  obtain ⟨hx1, hx2⟩ := mem_kids.1 hx
  exact ih x.f0 (x :: U) W (Path.step d U x hU hx1 hx2) (by simp only [List.length_cons]; omega) (Kd.C_below hr0 hb)
theorem redpencilref11_Below.calls (A0 : Option Addr) (c0 : Nat) (l0 : List Node) (a1_0 a1_1 : Int) (r : List Node) (w : World) (hr0 : Kd.C k35 w A0 l0.length l0) (hc0 : l0.length ≤ c0) (h : redpencilref11_Below.f l0 a1_0 a1_1 = some r) :
  Calls Tryz.prog 31 #[.slice A0 l0.length c0, .agg #[.int .i64 a1_0, .int .i64 a1_1]] w fun e w' => ∃ v0_ : Value, e = .returned v0_ ∧ Kd.R k35 35 w' w.heap.size (fun _ => True) v0_ r ∧ Below w.heap.size w w' := by
 unfold redpencilref11_Below.f at h
 split at h
 ·
  rename_i hh
  obtain ⟨h1, h2, h3⟩ := hh
  obtain rfl := Option.some.inj h
  obtain ⟨p, hp⟩ := Option.isSome_iff_exists.1 h3
  obtain ⟨U, hU, _⟩ := pathOf_some (store_of h2) hp
  exact refBelow_call A0 l0.length c0 l0 rfl h1 (store_of h2) hc0 (l0.length - U.length) ⟨a1_0, a1_1⟩ U w hU (by have := hU.le (store_of h2); omega) hr0
 ·
  cases h
end Go.Proofs.YtjlpaagnajmogaaGreat.PWalk
end
section
namespace Go.Proofs.YtjlpaagnajmogaaGreat.PWalk
open Go.RowKit Go.Proofs.YtjlpaagnajmogaaGreatW.PrintWords Go.Proofs.YtjlpaagnajmogaaGreatW.PrintLast Go.Proofs.YtjlpaagnajmogaaGreatW.PrintMore
set_option linter.unusedVariables false
set_option linter.unusedSimpArgs false
def redpencilref11_Order.f (l0 : List (S35)) : Option ((List (S35))) := (redpencilref11_Below.f l0 0 0).bind fun t227 => (some t227)
set_option maxHeartbeats 8000000 in
set_option maxRecDepth 100000 in
theorem redpencilref11_Order.calls (A0 : Option Addr) (c0 : Nat) (l0 : List (S35)) (r : List (S35)) (w : World) (hr0 : Kd.C k35 w A0 l0.length l0) (hc0 : l0.length ≤ c0) (h : redpencilref11_Order.f l0 = some r) :
  Calls Tryz.prog 22 #[.slice A0 l0.length c0] w fun e w' => ∃ v0_ : Value, e = .returned (v0_) ∧ Kd.R k35 35 w' w.heap.size (fun _ => True) v0_ r ∧ Below w.heap.size w w' := by
 have hu24 := Tryz.underlying24
 have HR0 := Aside0.mk hr0
 have HC0 := Aside0.mk hc0
 clear hr0 hc0
 have HB := Aside0.mk (Below.refl w.heap.size w)
 have H : ((redpencilref11_Below.f l0 0 0).bind fun t227 => (some t227)) = some r := h
 clear h
 replace H := Option.bind_eq_some_iff.mp H
 obtain ⟨t227, A20, H⟩ := H
 replace H : (some t227) = some r := H
 have A2 := Aside0.mk A20
 clear A20
 obtain rfl := Option.some.inj H
 go_enter Tryz.func22, Tryz.ntmps22
 go_wp2_with (first | ((with_reducible refine gate_callee (f := 31) rfl ?_); refine goesL_ (some 5) rfl rfl Tryz.func31 (by kernel_rfl) rfl #[.slice A0 l0.length c0, .agg #[.int .i64 0, .int .i64 0]] rfl (by (try simp only [List.map_toArray, List.map_cons, List.map_nil]); first | done | rfl | (simp only [List.length_drop, List.length_take]; rfl)) ?_; (with_reducible refine (redpencilref11_Below.calls _ _ l0 0 0 t227 _ ?side1 ?side2 A2.out).mono ?_); (case side1 => repeat (first | exact HR0.out | (with_reducible refine Kd.C_alloc ?_ _) | (with_reducible refine Kd.C_drewN ?_ _) | (with_reducible refine Kd.C_drew ?_))); (case side2 => exact HC0.out); rintro e w3 ⟨v228, rfl, ho0, hb⟩; refine ⟨_, rfl, ?_⟩; have n0_ := Aside0.mk (Kd.R_lower ho0 (below_size (by repeat (first | (with_reducible first | exact HB.out | apply below_alloc | apply pw_below_drewN | apply below_drew1) | exact HB.out)))); have n1_ := Aside0.mk (below_step (by repeat (first | (with_reducible first | exact HB.out | apply below_alloc | apply pw_below_drewN | apply below_drew1) | exact HB.out)) hb); clear HB; have HO229 := n0_; have HB := n1_; clear n0_ n1_; (try clear hb); (try clear hb2); (try clear hk); (try clear hi); (try clear ho0)))
 go_ret
 exact ⟨_, by first | rfl | (simp [errW_none, errW_some] <;> rfl) | (simp [*, errW_none, errW_some] <;> rfl), by (with_reducible repeat (first | apply Kd.R_alloc | apply Kd.R_drewN | apply Kd.R_drew)); exact HO229.out, by repeat (first | (with_reducible first | exact HB.out | apply below_alloc | apply pw_below_drewN | apply below_drew1) | exact HB.out)⟩
end Go.Proofs.YtjlpaagnajmogaaGreat.PWalk
end
section
namespace Go.Proofs.YtjlpaagnajmogaaGreat.PWalk
end Go.Proofs.YtjlpaagnajmogaaGreat.PWalk
end
section
namespace Go.Proofs.YtjlpaagnajmogaaGreat.PWalk
end Go.Proofs.YtjlpaagnajmogaaGreat.PWalk
end
section
namespace Go.Proofs.YtjlpaagnajmogaaGreat.PWalk
end Go.Proofs.YtjlpaagnajmogaaGreat.PWalk
end
section
namespace Go.Proofs.YtjlpaagnajmogaaGreat.PWalk
open Go.RowKit Go.Proofs.YtjlpaagnajmogaaGreatW.PrintWords Go.Proofs.YtjlpaagnajmogaaGreatW.PrintLast Go.Proofs.YtjlpaagnajmogaaGreatW.PrintMore
set_option linter.unusedVariables false
set_option linter.unusedSimpArgs false
open Go.Shelf
attribute [local go_sem] Oper.semAt_some
/-- A rune that the machine can hold. -/
def runeIn (r : Int) : Prop := -9223372036854775808 ≤ r ∧ r ≤ 9223372036854775807
theorem rdN {l : List Node} {i : Nat} (h : i < l.length) : rd_T35 l (i : Int) = l[i] := by simp [rd_T35, h]
theorem wrap_succ {i n : Nat} (h : i < n) (hn : n ≤ 1000000) : wrap64 ((i : Int) + 1) = ((i + 1 : Nat) : Int) := by unfold wrap64; omega
theorem refValid_is (l : List Node) (hl : l.length ≤ 1000000) (hw : ∀ x ∈ l, runeIn x.f3) (k : Nat) (hk : l.length < k) : redpencilref10_Valid.f k l = some (storeOk l) := by
 unfold redpencilref10_Valid.f
 rw [if_pos ⟨hl, List.all_eq_true.2 fun x hx => decide_eq_true (hw x hx)⟩]
theorem dot_beq (a b : Dot) : (a.f0 == b.f0 && (a.f1 == b.f1)) = decide (a = b) := by
 by_cases h : a = b
 ·
  subst h; simp
 ·
  rw [decide_eq_false h, Bool.eq_false_iff]
  intro hh
  simp only [Bool.and_eq_true, beq_iff_eq] at hh
  exact h (Dot.ext_iff'.2 hh)
end Go.Proofs.YtjlpaagnajmogaaGreat.PWalk
end
section
namespace Go.Proofs.YtjlpaagnajmogaaGreat.PWalk
open Go.RowKit Go.Proofs.YtjlpaagnajmogaaGreatW.PrintWords Go.Proofs.YtjlpaagnajmogaaGreatW.PrintLast Go.Proofs.YtjlpaagnajmogaaGreatW.PrintMore
set_option linter.unusedVariables false
set_option linter.unusedSimpArgs false
open Go.Shelf
attribute [local go_sem] Oper.semAt_some
theorem order_is {l : List Node} (hl : l.length ≤ 400000) (hs : storeOk l = true) : redpencilref11_Order.f l = some (nds (ordOf l)) := by
 unfold redpencilref11_Order.f redpencilref11_Below.f
 have hp : (pathOf l ⟨0, 0⟩).isSome = true := rfl
 rw [if_pos ⟨hl, hs, hp⟩]
 rfl
end Go.Proofs.YtjlpaagnajmogaaGreat.PWalk
end
section
namespace Go.Proofs.YtjlpaagnajmogaaGreat.PWalk
open Go.RowKit Go.Proofs.YtjlpaagnajmogaaGreatW.PrintWords Go.Proofs.YtjlpaagnajmogaaGreatW.PrintLast Go.Proofs.YtjlpaagnajmogaaGreatW.PrintMore
set_option linter.unusedVariables false
set_option linter.unusedSimpArgs false
def redpencilref12_alive.l0 : Nat → List (S35) → List (S35) → Int → Option ((List (S35)))
 | 0, _, _, _ => none
 | k + 1, x0, x3, x4 => if x4 < (x0.length : Int) then (if 0 ≤ x4 then (if ((rd_T35 x0 x4).f3) = 0 then (redpencilref12_alive.l0 k x0 x3 (wrap64 (x4 + 1))) else (if x3.length < 2932031007402 then (redpencilref12_alive.l0 k x0 (x3 ++ [(⟨(⟨(rd_T35 x0 x4).f0.f0, (rd_T35 x0 x4).f0.f1⟩ : S24), (⟨(rd_T35 x0 x4).f1.f0, (rd_T35 x0 x4).f1.f1⟩ : S24), (rd_T35 x0 x4).f2, (rd_T35 x0 x4).f3⟩ : S35)]) (wrap64 (x4 + 1))) else (none))) else (none)) else (some x3)
def redpencilref12_alive.f (k : Nat) (l0 : List (S35)) : Option ((List (S35))) := redpencilref12_alive.l0 k l0 ([] : List (S35)) 0
set_option maxHeartbeats 8000000 in
set_option maxRecDepth 100000 in
theorem redpencilref12_alive.calls (k : Nat) (A0 : Option Addr) (c0 : Nat) (l0 : List (S35)) (r : List (S35)) (w : World) (hr0 : Kd.C k35 w A0 l0.length l0) (hc0 : l0.length ≤ c0) (h : redpencilref12_alive.f k l0 = some r) :
  Calls Tryz.prog 85 #[.slice A0 l0.length c0] w fun e w' => ∃ v0_ : Value, e = .returned (v0_) ∧ Kd.R k35 35 w' w.heap.size (fun _ => True) v0_ r ∧ Below w.heap.size w w' := by
 have hu35 := Tryz.underlying35
 have HR0 := Aside0.mk hr0
 have HC0 := Aside0.mk hc0
 clear hr0 hc0
 have HB := Aside0.mk (Below.refl w.heap.size w)
 have H : (redpencilref12_alive.l0 k l0 ([] : List (S35)) 0) = some r := h
 clear h
 have H' := Aside0.mk H
 clear H
 go_enter Tryz.func85, Tryz.ntmps85
 go_wp2
 go_loopg [3, 4] k (fun kq v3 v4 w' => ∃ (x3_1 : List (S35)) (x4_1 : Int), v4 = .int .i64 x4_1 ∧ Aside0 (redpencilref12_alive.l0 kq l0 x3_1 x4_1 = some r) ∧ Aside0 (kq ≤ k) ∧ Aside0 (Kd.R k35 35 w' w.heap.size (fun _ => True) v3 x3_1) ∧ Aside0 (Below w.heap.size w w'))
 case atStart => exact ⟨(([] : List (S35))), (0), (by first | rfl | (simp; done) | (simp [*]; done)), H', ⟨Nat.le_refl _⟩, ⟨by first | exact Kd.R_nil _ _ _ _ _ | exact Kd.N_nil _ _ _ _ _ | exact Kd.V_nil _ _ _ _ _ | exact Kd.Q_nil _ _ _ _ _ | exact Kd.S_nil _ _ _ _ _⟩, ⟨by repeat (first | (with_reducible first | exact HB.out | apply below_alloc | apply pw_below_drewN | apply below_drew1) | exact HB.out)⟩⟩
 case round =>
  clear H'
  obtain ⟨x3_1, x4_1, rfl, HA, HK1, HO_3, HB⟩ := hrel
  cases gk with
  | zero => exact absurd HA.out (by simp [redpencilref12_alive.l0])
  | succ k1 =>
   have H := HA.out
   clear HA
   simp only [redpencilref12_alive.l0] at H
   by_cases c2 : x4_1 < (l0.length : Int)
   ·
    rw [if_pos c2] at H
    have c2b0 : decide (x4_1 < (l0.length : Int)) = true := decide_eq_true c2
    clear c2
    by_cases c3 : 0 ≤ x4_1
    ·
     rw [if_pos c3] at H
     have c3b0 : decide (0 ≤ x4_1) = true := decide_eq_true c3
     clear c3
     by_cases c4 : ((rd_T35 l0 x4_1).f3) = 0
     ·
      rw [if_pos c4] at H
      have c4b0 : (((rd_T35 l0 x4_1).f3) == 0) = true := beq_iff_eq.mpr c4
      have c4b1 : (((rd_T35 l0 x4_1).f3) != 0) = false := bne_eq_false_iff_eq.mpr c4
      clear c4
      have H' := Aside0.mk H
      clear H
      have p431 : 0 ≤ (x4_1 : Int) := of_decide_eq_true (by first | (with_reducible assumption) | assumption)
      have q431 : x4_1 < (l0.length : Int) := of_decide_eq_true (by first | (with_reducible assumption) | assumption)
      obtain ⟨ad431, e431, hx431_0, hx431_1, hx431_2, hx431_3, hx431_4, hx431_5⟩ := at_T35 HR0.out x4_1 p431 q431
      cases e431
      replace hx431_0 := (HB.out.cell (World.block_lt_of_cell? w _ hx431_0)).trans hx431_0
      replace hx431_1 := (HB.out.cell (World.block_lt_of_cell? w _ hx431_1)).trans hx431_1
      replace hx431_2 := (HB.out.cell (World.block_lt_of_cell? w _ hx431_2)).trans hx431_2
      replace hx431_3 := (HB.out.cell (World.block_lt_of_cell? w _ hx431_3)).trans hx431_3
      replace hx431_4 := (HB.out.cell (World.block_lt_of_cell? w _ hx431_4)).trans hx431_4
      replace hx431_5 := (HB.out.cell (World.block_lt_of_cell? w _ hx431_5)).trans hx431_5
      replace p431 := eq_true p431
      replace q431 := eq_true q431
      go_wp2
      go_roundg k1
      case measure => have := HK1.out; omega
      case rel => exact ⟨(x3_1), (wrap64 (x4_1 + 1)), (by first | rfl | (simp; done) | (simp [*]; done)), H', ⟨by have := HK1.out; omega⟩, ⟨by (with_reducible repeat (first | apply Kd.R_alloc | apply Kd.R_drewN | apply Kd.R_drew)); exact HO_3.out⟩, ⟨by repeat (first | (with_reducible first | exact HB.out | apply below_alloc | apply pw_below_drewN | apply below_drew1) | exact HB.out)⟩⟩
     ·
      rw [if_neg c4] at H
      have c4b0 : (((rd_T35 l0 x4_1).f3) == 0) = false := beq_eq_false_iff_ne.mpr c4
      have c4b1 : (((rd_T35 l0 x4_1).f3) != 0) = true := bne_iff_ne.mpr c4
      by_cases c5 : x3_1.length < 2932031007402
      ·
       rw [if_pos c5] at H
       have LMc5 := Aside0.mk c5
       clear c5
       obtain ⟨y433, hy433⟩ : ∃ y_ : List (S35), y_ = (x3_1 ++ [(⟨(⟨(rd_T35 l0 x4_1).f0.f0, (rd_T35 l0 x4_1).f0.f1⟩ : S24), (⟨(rd_T35 l0 x4_1).f1.f0, (rd_T35 l0 x4_1).f1.f1⟩ : S24), (rd_T35 l0 x4_1).f2, (rd_T35 l0 x4_1).f3⟩ : S35)]) := ⟨_, rfl⟩
       replace H : (redpencilref12_alive.l0 k1 l0 y433 (wrap64 (x4_1 + 1))) = some r := by first | (rw [hy433]; with_reducible exact H) | (have H2_ := (Option.bind_some _ _).symm.trans H; rw [hy433]; with_reducible exact H2_) | (have H2_ := (Option.bind_some _ _).symm.trans H; with_reducible exact H2_) | with_reducible exact H | (rw [hy433]; exact H) | exact H
       have Ny433 := Aside0.mk hy433
       clear hy433
       have H' := Aside0.mk H
       clear H
       have p431 : 0 ≤ (x4_1 : Int) := of_decide_eq_true (by first | (with_reducible assumption) | assumption)
       have q431 : x4_1 < (l0.length : Int) := of_decide_eq_true (by first | (with_reducible assumption) | assumption)
       obtain ⟨ad431, e431, hx431_0, hx431_1, hx431_2, hx431_3, hx431_4, hx431_5⟩ := at_T35 HR0.out x4_1 p431 q431
       cases e431
       replace hx431_0 := (HB.out.cell (World.block_lt_of_cell? w _ hx431_0)).trans hx431_0
       replace hx431_1 := (HB.out.cell (World.block_lt_of_cell? w _ hx431_1)).trans hx431_1
       replace hx431_2 := (HB.out.cell (World.block_lt_of_cell? w _ hx431_2)).trans hx431_2
       replace hx431_3 := (HB.out.cell (World.block_lt_of_cell? w _ hx431_3)).trans hx431_3
       replace hx431_4 := (HB.out.cell (World.block_lt_of_cell? w _ hx431_4)).trans hx431_4
       replace hx431_5 := (HB.out.cell (World.block_lt_of_cell? w _ hx431_5)).trans hx431_5
       replace p431 := eq_true p431
       replace q431 := eq_true q431
       have p432 : 0 ≤ (x4_1 : Int) := of_decide_eq_true (by first | (with_reducible assumption) | assumption)
       have q432 : x4_1 < (l0.length : Int) := of_decide_eq_true (by first | (with_reducible assumption) | assumption)
       obtain ⟨ad432, e432, hx432_0, hx432_1, hx432_2, hx432_3, hx432_4, hx432_5⟩ := at_T35 HR0.out x4_1 p432 q432
       obtain rfl : ad431 = ad432 := (by injection e432)
       replace hx432_0 := (HB.out.cell (World.block_lt_of_cell? w _ hx432_0)).trans hx432_0
       replace hx432_1 := (HB.out.cell (World.block_lt_of_cell? w _ hx432_1)).trans hx432_1
       replace hx432_2 := (HB.out.cell (World.block_lt_of_cell? w _ hx432_2)).trans hx432_2
       replace hx432_3 := (HB.out.cell (World.block_lt_of_cell? w _ hx432_3)).trans hx432_3
       replace hx432_4 := (HB.out.cell (World.block_lt_of_cell? w _ hx432_4)).trans hx432_4
       replace hx432_5 := (HB.out.cell (World.block_lt_of_cell? w _ hx432_5)).trans hx432_5
       replace p432 := eq_true p432
       replace q432 := eq_true q432
       go_wp2_with (first | ((with_reducible refine gate_builtin (b := .append) (xs := #[.tmp 17, .tmp 22]) rfl ?_); at_builtin; refine Kd.R_append k35 (w0 := w) w.heap.size rfl (.tmp 17) (.tmp 22) 22 35 (.agg #[(.int .i64 0), (.int .i64 0), (.int .i64 0), (.int .i64 0), (.int .i64 0), (.int .i32 0)]) 48 rfl Tryz.underlying22 info35 rfl (by decide) (by omega) u3 x3_1 (⟨(⟨(rd_T35 l0 x4_1).f0.f0, (rd_T35 l0 x4_1).f0.f1⟩ : S24), (⟨(rd_T35 l0 x4_1).f1.f0, (rd_T35 l0 x4_1).f1.f1⟩ : S24), (rd_T35 l0 x4_1).f2, (rd_T35 l0 x4_1).f3⟩ : S35) [.int .i64 ((rd_T35 l0 x4_1).f0.f0), .int .i64 ((rd_T35 l0 x4_1).f0.f1), .int .i64 ((rd_T35 l0 x4_1).f1.f0), .int .i64 ((rd_T35 l0 x4_1).f1.f1), .int .i64 ((rd_T35 l0 x4_1).f2), .int .i32 ((rd_T35 l0 x4_1).f3)] (fun _ => True) (fun _ => False) rfl rfl ?aP (fun _ hk => hk.elim) ?aF ?aO ?aB ?aS ?aL ?_; (case aP => exact k35_mkM _ _ _ (⟨(⟨(rd_T35 l0 x4_1).f0.f0, (rd_T35 l0 x4_1).f0.f1⟩ : S24), (⟨(rd_T35 l0 x4_1).f1.f0, (rd_T35 l0 x4_1).f1.f1⟩ : S24), (rd_T35 l0 x4_1).f2, (rd_T35 l0 x4_1).f3⟩ : S35)); (case aB => exact (by repeat (first | (with_reducible first | exact HB.out | apply below_alloc | apply pw_below_drewN | apply below_drew1) | exact HB.out))); (case aF => exact (fun _ _ => trivial)); (case aO => exact (by (with_reducible repeat (first | apply Kd.R_alloc | apply Kd.R_drewN | apply Kd.R_drew)); exact HO_3.out)); (case aS => exact (below_size (by repeat (first | (with_reducible first | exact HB.out | apply below_alloc | apply pw_below_drewN | apply below_drew1) | exact HB.out)))); (case aL => have := LMc5.out; omega); intro v434 w6 ho hb hg hat; rw [← Ny433.out] at ho; have n0_ := Aside0.mk (hb); have n1_ := Aside0.mk (ho); clear HB; clear HO_3; have HB := n0_; have HO435 := n1_; clear n0_ n1_; clear ho hb hg hat))
       go_roundg k1
       case measure => have := HK1.out; omega
       case rel => exact ⟨(y433), (wrap64 (x4_1 + 1)), (by first | rfl | (simp; done) | (simp [*]; done)), H', ⟨by have := HK1.out; omega⟩, ⟨by (with_reducible repeat (first | apply Kd.R_alloc | apply Kd.R_drewN | apply Kd.R_drew)); exact HO435.out⟩, ⟨by repeat (first | (with_reducible first | exact HB.out | apply below_alloc | apply pw_below_drewN | apply below_drew1) | exact HB.out)⟩⟩
      ·
       rw [if_neg c5] at H
       exact absurd H (by simp)
    ·
     rw [if_neg c3] at H
     exact absurd H (by simp)
   ·
    rw [if_neg c2] at H
    have c2b0 : decide (x4_1 < (l0.length : Int)) = false := decide_eq_false c2
    clear c2
    obtain rfl := Option.some.inj H
    go_wp2
    go_ret
    exact ⟨_, by first | rfl | (simp [errW_none, errW_some] <;> rfl) | (simp [*, errW_none, errW_some] <;> rfl), by (with_reducible repeat (first | apply Kd.R_alloc | apply Kd.R_drewN | apply Kd.R_drew)); exact HO_3.out, by repeat (first | (with_reducible first | exact HB.out | apply below_alloc | apply pw_below_drewN | apply below_drew1) | exact HB.out)⟩
def redpencilref12_Visible.f (k : Nat) (l0 : List (S35)) : Option ((List (S35))) := (redpencilref11_Order.f l0).bind fun t436 => ((redpencilref12_alive.f k t436).bind fun t439 => (some t439))
set_option maxHeartbeats 8000000 in
set_option maxRecDepth 100000 in
theorem redpencilref12_Visible.calls (k : Nat) (A0 : Option Addr) (c0 : Nat) (l0 : List (S35)) (r : List (S35)) (w : World) (hr0 : Kd.C k35 w A0 l0.length l0) (hc0 : l0.length ≤ c0) (h : redpencilref12_Visible.f k l0 = some r) :
  Calls Tryz.prog 43 #[.slice A0 l0.length c0] w fun e w' => ∃ v0_ : Value, e = .returned (v0_) ∧ Kd.R k35 35 w' w.heap.size (fun _ => True) v0_ r ∧ Below w.heap.size w w' := by
 have HR0 := Aside0.mk hr0
 have HC0 := Aside0.mk hc0
 clear hr0 hc0
 have HB := Aside0.mk (Below.refl w.heap.size w)
 have H : ((redpencilref11_Order.f l0).bind fun t436 => ((redpencilref12_alive.f k t436).bind fun t439 => (some t439))) = some r := h
 clear h
 replace H := Option.bind_eq_some_iff.mp H
 obtain ⟨t436, A20, H⟩ := H
 replace H : ((redpencilref12_alive.f k t436).bind fun t439 => (some t439)) = some r := H
 have A2 := Aside0.mk A20
 clear A20
 replace H := Option.bind_eq_some_iff.mp H
 obtain ⟨t439, A30, H⟩ := H
 replace H : (some t439) = some r := H
 have A3 := Aside0.mk A30
 clear A30
 obtain rfl := Option.some.inj H
 go_enter Tryz.func43, Tryz.ntmps43
 go_wp2_with (first | ((with_reducible refine gate_callee (f := 22) rfl ?_); refine goesL_ (some 4) rfl rfl Tryz.func22 (by kernel_rfl) rfl #[.slice A0 l0.length c0] rfl (by (try simp only [List.map_toArray, List.map_cons, List.map_nil]); first | done | rfl | (simp only [List.length_drop, List.length_take]; rfl)) ?_; (with_reducible refine (redpencilref11_Order.calls _ _ l0 t436 _ ?side1 ?side2 A2.out).mono ?_); (case side1 => repeat (first | exact HR0.out | (with_reducible refine Kd.C_alloc ?_ _) | (with_reducible refine Kd.C_drewN ?_ _) | (with_reducible refine Kd.C_drew ?_))); (case side2 => exact HC0.out); rintro e w4 ⟨v437, rfl, ho0, hb⟩; refine ⟨_, rfl, ?_⟩; have n0_ := Aside0.mk (Kd.R_lower ho0 (below_size (by repeat (first | (with_reducible first | exact HB.out | apply below_alloc | apply pw_below_drewN | apply below_drew1) | exact HB.out)))); have n1_ := Aside0.mk (below_step (by repeat (first | (with_reducible first | exact HB.out | apply below_alloc | apply pw_below_drewN | apply below_drew1) | exact HB.out)) hb); clear HB; have HO438 := n0_; have HB := n1_; clear n0_ n1_; (try clear hb); (try clear hb2); (try clear hk); (try clear hi); (try clear ho0); obtain ⟨Ao5, co5, eo5⟩ := Kd.R_slice HO438.out; subst eo5) | ((with_reducible refine gate_callee (f := 85) rfl ?_); refine goesL_ (some 5) rfl rfl Tryz.func85 (by kernel_rfl) rfl #[.slice Ao5 t436.length co5] rfl (by (try simp only [List.map_toArray, List.map_cons, List.map_nil]); first | done | rfl | (simp only [List.length_drop, List.length_take]; rfl)) ?_; (with_reducible refine (redpencilref12_alive.calls k _ _ t436 t439 _ ?side1 ?side2 A3.out).mono ?_); (case side1 => repeat (first | exact (Kd.R_reads' HO438.out).2.2 | (with_reducible refine Kd.C_alloc ?_ _) | (with_reducible refine Kd.C_drewN ?_ _) | (with_reducible refine Kd.C_drew ?_))); (case side2 => exact (Kd.R_reads' HO438.out).2.1); rintro e w6 ⟨v440, rfl, ho0, hb⟩; refine ⟨_, rfl, ?_⟩; have n0_ := Aside0.mk (Kd.R_elder' (by (with_reducible repeat (first | apply Kd.R_alloc | apply Kd.R_drewN | apply Kd.R_drew)); exact HO438.out) (Kd.R_base ho0) hb); have n1_ := Aside0.mk (Kd.R_lower (Kd.R_new' ho0 (Kd.R_lt (by (with_reducible repeat (first | apply Kd.R_alloc | apply Kd.R_drewN | apply Kd.R_drew)); exact HO438.out))) (below_size (by repeat (first | (with_reducible first | exact HB.out | apply below_alloc | apply pw_below_drewN | apply below_drew1) | exact HB.out)))); have n2_ := Aside0.mk (below_step (by repeat (first | (with_reducible first | exact HB.out | apply below_alloc | apply pw_below_drewN | apply below_drew1) | exact HB.out)) hb); clear HO438; clear HB; have HO438 := n0_; have HO441 := n1_; have HB := n2_; clear n0_ n1_ n2_; (try clear hb); (try clear hb2); (try clear hk); (try clear hi); (try clear ho0)))
 go_ret
 exact ⟨_, by first | rfl | (simp [errW_none, errW_some] <;> rfl) | (simp [*, errW_none, errW_some] <;> rfl), by (with_reducible repeat (first | apply Kd.R_alloc | apply Kd.R_drewN | apply Kd.R_drew)); exact Kd.R_mono HO441.out (fun _ hk => trivial), by repeat (first | (with_reducible first | exact HB.out | apply below_alloc | apply pw_below_drewN | apply below_drew1) | exact HB.out)⟩
def redpencilref12_Runes.l0 : Nat → List Int → List (S35) → Int → Option (List Int)
 | 0, _, _, _ => none
 | k + 1, x3, x4, x5 => if x5 < (x4.length : Int) then (if 0 ≤ x5 then (if x3.length < 35184372088832 then (redpencilref12_Runes.l0 k (x3 ++ [(rd_T35 x4 x5).f3]) x4 (wrap64 (x5 + 1))) else (none)) else (none)) else (some x3)
def redpencilref12_Runes.f (k : Nat) (l0 : List (S35)) : Option (List Int) := (redpencilref12_Visible.f k l0).bind fun t442 => (redpencilref12_Runes.l0 k ([] : List Int) t442 0)
set_option maxHeartbeats 8000000 in
set_option maxRecDepth 100000 in
theorem redpencilref12_Runes.calls (k : Nat) (A0 : Option Addr) (c0 : Nat) (l0 : List (S35)) (r : List Int) (w : World) (hr0 : Kd.C k35 w A0 l0.length l0) (hc0 : l0.length ≤ c0) (h : redpencilref12_Runes.f k l0 = some r) :
  Calls Tryz.prog 39 #[.slice A0 l0.length c0] w fun e w' => ∃ v0_ : Value, e = .returned (v0_) ∧ Kd.R (Kd.int .i32) 21 w' w.heap.size (fun _ => True) v0_ r ∧ Below w.heap.size w w' := by
 have HR0 := Aside0.mk hr0
 have HC0 := Aside0.mk hc0
 clear hr0 hc0
 have HB := Aside0.mk (Below.refl w.heap.size w)
 have H : ((redpencilref12_Visible.f k l0).bind fun t442 => (redpencilref12_Runes.l0 k ([] : List Int) t442 0)) = some r := h
 clear h
 replace H := Option.bind_eq_some_iff.mp H
 obtain ⟨t442, A20, H⟩ := H
 replace H : (redpencilref12_Runes.l0 k ([] : List Int) t442 0) = some r := H
 have A2 := Aside0.mk A20
 clear A20
 have H' := Aside0.mk H
 clear H
 go_enter Tryz.func39, Tryz.ntmps39
 go_wp2_with (first | ((with_reducible refine gate_callee (f := 43) rfl ?_); refine goesL_ (some 7) rfl rfl Tryz.func43 (by kernel_rfl) rfl #[.slice A0 l0.length c0] rfl (by (try simp only [List.map_toArray, List.map_cons, List.map_nil]); first | done | rfl | (simp only [List.length_drop, List.length_take]; rfl)) ?_; (with_reducible refine (redpencilref12_Visible.calls k _ _ l0 t442 _ ?side1 ?side2 A2.out).mono ?_); (case side1 => repeat (first | exact HR0.out | (with_reducible refine Kd.C_alloc ?_ _) | (with_reducible refine Kd.C_drewN ?_ _) | (with_reducible refine Kd.C_drew ?_))); (case side2 => exact HC0.out); rintro e w3 ⟨v443, rfl, ho0, hb⟩; refine ⟨_, rfl, ?_⟩; have n0_ := Aside0.mk (Kd.R_lower ho0 (below_size (by repeat (first | (with_reducible first | exact HB.out | apply below_alloc | apply pw_below_drewN | apply below_drew1) | exact HB.out)))); have n1_ := Aside0.mk (below_step (by repeat (first | (with_reducible first | exact HB.out | apply below_alloc | apply pw_below_drewN | apply below_drew1) | exact HB.out)) hb); clear HB; have HO444 := n0_; have HB := n1_; clear n0_ n1_; (try clear hb); (try clear hb2); (try clear hk); (try clear hi); (try clear ho0)))
 go_loopg [3, 5] k (fun kq v3 v5 w' => ∃ (x3_1 : List Int) (x5_1 : Int), v5 = .int .i64 x5_1 ∧ Aside0 (redpencilref12_Runes.l0 kq x3_1 t442 x5_1 = some r) ∧ Aside0 (kq ≤ k) ∧ Aside0 (Kd.R (Kd.int .i32) 21 w' w.heap.size (fun _ => True) v3 x3_1) ∧ Aside0 (Kd.R k35 35 w' w.heap.size (fun _ => True) v443 t442) ∧ Aside0 (Below w.heap.size w w'))
 case atStart => exact ⟨(([] : List Int)), (0), (by first | rfl | (simp; done) | (simp [*]; done)), H', ⟨Nat.le_refl _⟩, ⟨by first | exact Kd.R_nil _ _ _ _ _ | exact Kd.N_nil _ _ _ _ _ | exact Kd.V_nil _ _ _ _ _ | exact Kd.Q_nil _ _ _ _ _ | exact Kd.S_nil _ _ _ _ _⟩, ⟨by (with_reducible repeat (first | apply Kd.R_alloc | apply Kd.R_drewN | apply Kd.R_drew)); exact HO444.out⟩, ⟨by repeat (first | (with_reducible first | exact HB.out | apply below_alloc | apply pw_below_drewN | apply below_drew1) | exact HB.out)⟩⟩
 case round =>
  clear H'
  try clear p2
  try clear c3
  obtain ⟨x3_1, x5_1, rfl, HA, HK1, HO_3, HO_4, HB⟩ := hrel
  cases gk with
  | zero => exact absurd HA.out (by simp [redpencilref12_Runes.l0])
  | succ k1 =>
   have H := HA.out
   clear HA
   simp only [redpencilref12_Runes.l0] at H
   by_cases c4 : x5_1 < (t442.length : Int)
   ·
    rw [if_pos c4] at H
    have c4b0 : decide (x5_1 < (t442.length : Int)) = true := decide_eq_true c4
    clear c4
    by_cases c5 : 0 ≤ x5_1
    ·
     rw [if_pos c5] at H
     have c5b0 : decide (0 ≤ x5_1) = true := decide_eq_true c5
     clear c5
     by_cases c6 : x3_1.length < 35184372088832
     ·
      rw [if_pos c6] at H
      have LMc6 := Aside0.mk c6
      clear c6
      obtain ⟨y446, hy446⟩ : ∃ y_ : List Int, y_ = (x3_1 ++ [(rd_T35 t442 x5_1).f3]) := ⟨_, rfl⟩
      replace H : (redpencilref12_Runes.l0 k1 y446 t442 (wrap64 (x5_1 + 1))) = some r := by first | (rw [hy446]; with_reducible exact H) | (have H2_ := (Option.bind_some _ _).symm.trans H; rw [hy446]; with_reducible exact H2_) | (have H2_ := (Option.bind_some _ _).symm.trans H; with_reducible exact H2_) | with_reducible exact H | (rw [hy446]; exact H) | exact H
      have Ny446 := Aside0.mk hy446
      clear hy446
      have H' := Aside0.mk H
      clear H
      obtain ⟨Ao7, co7, eo7⟩ := Kd.R_slice HO_4.out
      subst eo7
      have p445 : 0 ≤ (x5_1 : Int) := of_decide_eq_true (by first | (with_reducible assumption) | assumption)
      have q445 : x5_1 < (t442.length : Int) := of_decide_eq_true (by first | (with_reducible assumption) | assumption)
      obtain ⟨ad445, e445, hx445_0, hx445_1, hx445_2, hx445_3, hx445_4, hx445_5⟩ := at_T35 (Kd.R_reads' HO_4.out).2.2 x5_1 p445 q445
      cases e445
      replace p445 := eq_true p445
      replace q445 := eq_true q445
      go_wp2_with (first | ((with_reducible refine gate_builtin (b := .append) (xs := #[.tmp 14, .tmp 20]) rfl ?_); at_builtin; refine Kd.R_append (Kd.int .i32) (w0 := w) w.heap.size rfl (.tmp 14) (.tmp 20) 57 21 (.int .i32 0) 4 rfl Tryz.underlying57 info21 rfl (by decide) (by omega) u3 x3_1 ((rd_T35 t442 x5_1).f3) [.int .i32 ((rd_T35 t442 x5_1).f3)] (fun _ => True) (fun _ => False) rfl rfl ?aP (fun _ hk => hk.elim) ?aF ?aO ?aB ?aS ?aL ?_; (case aP => exact rfl); (case aB => exact (by repeat (first | (with_reducible first | exact HB.out | apply below_alloc | apply pw_below_drewN | apply below_drew1) | exact HB.out))); (case aF => exact (fun _ _ => trivial)); (case aO => exact (by (with_reducible repeat (first | apply Kd.R_alloc | apply Kd.R_drewN | apply Kd.R_drew)); exact HO_3.out)); (case aS => exact (below_size (by repeat (first | (with_reducible first | exact HB.out | apply below_alloc | apply pw_below_drewN | apply below_drew1) | exact HB.out)))); (case aL => have := LMc6.out; omega); intro v447 w8 ho hb hg hat; rw [← Ny446.out] at ho; have n0_ := Aside0.mk (Kd.R_over' (by (with_reducible repeat (first | apply Kd.R_alloc | apply Kd.R_drewN | apply Kd.R_drew)); exact HO_4.out) (Kd.R_typed (by (with_reducible repeat (first | apply Kd.R_alloc | apply Kd.R_drewN | apply Kd.R_drew)); exact HO_3.out)) (by decide) hg); have n1_ := Aside0.mk (hb); have n2_ := Aside0.mk (ho); clear HO_4; clear HB; clear HO_3; have HO_4 := n0_; have HB := n1_; have HO448 := n2_; clear n0_ n1_ n2_; clear ho hb hg hat))
      go_roundg k1
      case measure => have := HK1.out; omega
      case rel => exact ⟨(y446), (wrap64 (x5_1 + 1)), (by first | rfl | (simp; done) | (simp [*]; done)), H', ⟨by have := HK1.out; omega⟩, ⟨by (with_reducible repeat (first | apply Kd.R_alloc | apply Kd.R_drewN | apply Kd.R_drew)); exact HO448.out⟩, ⟨by (with_reducible repeat (first | apply Kd.R_alloc | apply Kd.R_drewN | apply Kd.R_drew)); exact HO_4.out⟩, ⟨by repeat (first | (with_reducible first | exact HB.out | apply below_alloc | apply pw_below_drewN | apply below_drew1) | exact HB.out)⟩⟩
     ·
      rw [if_neg c6] at H
      exact absurd H (by simp)
    ·
     rw [if_neg c5] at H
     exact absurd H (by simp)
   ·
    rw [if_neg c4] at H
    have c4b0 : decide (x5_1 < (t442.length : Int)) = false := decide_eq_false c4
    clear c4
    obtain rfl := Option.some.inj H
    obtain ⟨Ao9, co9, eo9⟩ := Kd.R_slice HO_4.out
    subst eo9
    go_wp2
    go_ret
    exact ⟨_, by first | rfl | (simp [errW_none, errW_some] <;> rfl) | (simp [*, errW_none, errW_some] <;> rfl), by (with_reducible repeat (first | apply Kd.R_alloc | apply Kd.R_drewN | apply Kd.R_drew)); exact HO_3.out, by repeat (first | (with_reducible first | exact HB.out | apply below_alloc | apply pw_below_drewN | apply below_drew1) | exact HB.out)⟩
end Go.Proofs.YtjlpaagnajmogaaGreat.PWalk
end
section
namespace Go.Proofs.YtjlpaagnajmogaaGreat.PWalk
end Go.Proofs.YtjlpaagnajmogaaGreat.PWalk
end
section
namespace Go.Proofs.YtjlpaagnajmogaaGreat.PWalk
open Go.RowKit Go.Proofs.YtjlpaagnajmogaaGreatW.PrintWords Go.Proofs.YtjlpaagnajmogaaGreatW.PrintLast Go.Proofs.YtjlpaagnajmogaaGreatW.PrintMore
set_option linter.unusedVariables false
set_option linter.unusedSimpArgs false
open Go.Shelf
attribute [local go_sem] Oper.semAt_some
theorem alive_from (l : List Node) (hl : l.length ≤ 1000000) : ∀ (q k i : Nat), i + q = l.length → q < k → redpencilref12_alive.l0 k l (aliveOf (l.take i)) (i : Int) = some (aliveOf l) := by
 intro q
 induction q with
 | zero =>
  intro k i hi hk
  obtain ⟨k, rfl⟩ : ∃ m, k = m + 1 := ⟨k - 1, by omega⟩
  simp only [redpencilref12_alive.l0]
  rw [if_neg (by omega), show i = l.length by omega, List.take_length]
 | succ q ih =>
  intro k i hi hk
  obtain ⟨k, rfl⟩ : ∃ m, k = m + 1 := ⟨k - 1, by omega⟩
  have hlt : i < l.length := by omega
  simp only [redpencilref12_alive.l0]
  rw [if_pos (by omega), if_pos (by omega), rdN hlt, wrap_succ hlt hl]
  have hs : aliveOf (l.take (i + 1)) = aliveOf (l.take i) ++ aliveOf [l[i]] := by
   unfold aliveOf
   rw [List.take_succ_eq_append_getElem hlt, List.filter_append]
  have := ih k (i + 1) (by omega) (by omega)
  rw [hs] at this
  by_cases h : l[i].f3 = 0
  ·
   rw [if_pos h]
   rw [show aliveOf [l[i]] = [] by unfold aliveOf; simp [h], List.append_nil] at this
   exact this
  ·
   rw [if_neg h, if_pos (by have := aliveOf_le (l.take i); rw [List.length_take] at this; omega)]
   rw [show aliveOf [l[i]] = [l[i]] by unfold aliveOf; simp [h]] at this
   exact this
theorem alive_is (l : List Node) (hl : l.length ≤ 1000000) (k : Nat) (hk : l.length < k) : redpencilref12_alive.f k l = some (aliveOf l) := alive_from l hl l.length k 0 (by omega) hk
theorem ord_len {ll : List Node} (hs : storeOk ll = true) : (nds (ordOf ll)).length ≤ ll.length := by rw [nds_length]; exact ord_le (store_of hs)
theorem vis_len {ll : List Node} (hs : storeOk ll = true) : (visOf ll).length ≤ ll.length := Nat.le_trans (aliveOf_le _) (ord_len hs)
theorem visible_is {ll : List Node} (hl : ll.length ≤ 40) (hs : storeOk ll = true) (k : Nat) (hk : 60 ≤ k) : redpencilref12_Visible.f k ll = some (visOf ll) := by
 have := ord_len hs
 unfold redpencilref12_Visible.f
 rw [order_is (by omega) hs]
 simp only [Option.bind_some]
 rw [alive_is _ (by omega) k (by omega)]
 rfl
theorem first2_k {k : Nat} (hk : 3 ≤ k) (a b : Int) : index_first.f k [a, b] = some (if a = 0 then b else a) := by
 obtain ⟨m, rfl⟩ : ∃ m, k = m + 3 := ⟨k - 3, by omega⟩
 by_cases ha : a = 0
 ·
  by_cases hb : b = 0
  ·
   subst ha hb; simp [index_first.f, index_first.l0, rd, wrap64]
  ·
   subst ha
   simp [index_first.f, index_first.l0, rd, wrap64, hb]
 ·
  simp [index_first.f, index_first.l0, rd, ha]
theorem of_none {ll : List Node} (hl : ll.length ≤ 40) {d : Dot} (hs : storeOk ll = true) (hd : dotOk d = true) (h : idxFrom (dotIs d) (visOf ll) < 0) : redpencillaw12_of.f ll d.f0 d.f1 0 9 = some true := by
 unfold redpencillaw12_of.f index_Of.f
 rw [if_pos (by omega), if_pos ⟨hs, hd⟩, if_pos h]
 rfl
theorem before_at {ll : List Node} (hl : ll.length ≤ 40) {d : Dot} (hs : storeOk ll = true) (hd : dotOk d = true) (h : ¬ idxFrom (dotIs d) (nds (ordOf ll)) < 0) : redpencillaw12_before.f ll d.f0 d.f1 ((aliveOf ((nds (ordOf ll)).take (idxFrom (dotIs d) (nds (ordOf ll))).toNat)).length : Int) 0 = some true := by
 unfold redpencillaw12_before.f index_Before.f
 rw [if_pos (by omega), if_pos ⟨hs, hd⟩, if_neg h]
 simp
end Go.Proofs.YtjlpaagnajmogaaGreat.PWalk
end
section
namespace Go.Proofs.YtjlpaagnajmogaaGreat.PWalk
open Go.RowKit Go.Proofs.YtjlpaagnajmogaaGreatW.PrintWords Go.Proofs.YtjlpaagnajmogaaGreatW.PrintLast Go.Proofs.YtjlpaagnajmogaaGreatW.PrintMore
set_option linter.unusedVariables false
set_option linter.unusedSimpArgs false
def redpencilref02_Same.l0 : Nat → List Int → List Int → Int → Option (Bool)
 | 0, _, _, _ => none
 | k + 1, x0, x1, x5 => if x5 < (x0.length : Int) then (if 0 ≤ x5 then (if x5 < (x1.length : Int) then (if (rd x0 x5) = (rd x1 x5) then (redpencilref02_Same.l0 k x0 x1 (wrap64 (x5 + 1))) else (some false)) else (none)) else (none)) else (some true)
def redpencilref02_Same.f (k : Nat) (l0 : List Int) (l1 : List Int) : Option (Bool) := if (l0.length : Int) = (l1.length : Int) then (redpencilref02_Same.l0 k l0 l1 0) else (some false)
set_option maxHeartbeats 8000000 in
set_option maxRecDepth 100000 in
theorem redpencilref02_Same.calls (k : Nat) (A0 : Option Addr) (c0 : Nat) (l0 : List Int) (A1 : Option Addr) (c1 : Nat) (l1 : List Int) (r : Bool) (w : World) (hr0 : Kd.C (Kd.int .i32) w A0 l0.length l0) (hc0 : l0.length ≤ c0) (hr1 : Kd.C (Kd.int .i32) w A1 l1.length l1) (hc1 : l1.length ≤ c1) (h : redpencilref02_Same.f k l0 l1 = some r) :
  Calls Tryz.prog 80 #[.slice A0 l0.length c0, .slice A1 l1.length c1] w fun e w' => e = .returned (.bool r) ∧ Drawn0 w w' := by
 have HR0 := Aside0.mk hr0
 have HC0 := Aside0.mk hc0
 clear hr0 hc0
 have HR1 := Aside0.mk hr1
 have HC1 := Aside0.mk hc1
 clear hr1 hc1
 have H : (if (l0.length : Int) = (l1.length : Int) then (redpencilref02_Same.l0 k l0 l1 0) else (some false)) = some r := h
 clear h
 by_cases c3 : (l0.length : Int) = (l1.length : Int)
 ·
  rw [if_pos c3] at H
  have c3b0 : ((l0.length : Int) == (l1.length : Int)) = true := beq_iff_eq.mpr c3
  have c3b1 : ((l0.length : Int) != (l1.length : Int)) = false := bne_eq_false_iff_eq.mpr c3
  have c3b2 : (l0.length == l1.length) = true := by first | simpa using c3 | (simp at c3 ⊢; omega)
  clear c3
  have H' := Aside0.mk H
  clear H
  go_enter Tryz.func80, Tryz.ntmps80
  go_wp2
  repeat (go_quiet (fail); try go_wp2)
  go_loopg [5] k (fun kq v5 w' => ∃ (x5_1 : Int), v5 = .int .i64 x5_1 ∧ Aside0 (redpencilref02_Same.l0 kq l0 l1 x5_1 = some r) ∧ Aside0 (kq ≤ k) ∧ Drawn0 w w')
  case atStart => exact ⟨(0), (by first | rfl | (simp; done) | (simp [*]; done)), H', ⟨Nat.le_refl _⟩, by repeat (first | exact Drawn0.refl _ | apply Drawn0.step)⟩
  case round =>
   clear H'
   try clear c1
   try clear p2
   try clear c3
   try clear c3b0
   try clear c3b1
   try clear c3b2
   obtain ⟨x5_1, rfl, HA, HK1, ⟨m1, rfl⟩⟩ := hrel
   cases gk with
   | zero => exact absurd HA.out (by simp [redpencilref02_Same.l0])
   | succ k1 =>
    have H := HA.out
    clear HA
    simp only [redpencilref02_Same.l0] at H
    by_cases c4 : x5_1 < (l0.length : Int)
    ·
     rw [if_pos c4] at H
     have c4b0 : decide (x5_1 < (l0.length : Int)) = true := decide_eq_true c4
     clear c4
     by_cases c5 : 0 ≤ x5_1
     ·
      rw [if_pos c5] at H
      have c5b0 : decide (0 ≤ x5_1) = true := decide_eq_true c5
      clear c5
      by_cases c6 : x5_1 < (l1.length : Int)
      ·
       rw [if_pos c6] at H
       have c6b0 : decide (x5_1 < (l1.length : Int)) = true := decide_eq_true c6
       clear c6
       by_cases c7 : (rd l0 x5_1) = (rd l1 x5_1)
       ·
        rw [if_pos c7] at H
        have c7b0 : ((rd l0 x5_1) == (rd l1 x5_1)) = true := beq_iff_eq.mpr c7
        have c7b1 : ((rd l0 x5_1) != (rd l1 x5_1)) = false := bne_eq_false_iff_eq.mpr c7
        clear c7
        have H' := Aside0.mk H
        clear H
        have p424 : 0 ≤ (x5_1 : Int) := of_decide_eq_true (by first | (with_reducible assumption) | assumption)
        have q424 : x5_1 < (l0.length : Int) := of_decide_eq_true (by first | (with_reducible assumption) | assumption)
        obtain ⟨ad424, e424, hx424_0⟩ := Kd.at_int HR0.out x5_1 p424 q424
        cases e424
        replace p424 := eq_true p424
        replace q424 := eq_true q424
        have p425 : 0 ≤ (x5_1 : Int) := of_decide_eq_true (by first | (with_reducible assumption) | assumption)
        have q425 : x5_1 < (l1.length : Int) := of_decide_eq_true (by first | (with_reducible assumption) | assumption)
        obtain ⟨ad425, e425, hx425_0⟩ := Kd.at_int HR1.out x5_1 p425 q425
        cases e425
        replace p425 := eq_true p425
        replace q425 := eq_true q425
        go_wp2
        repeat (go_quiet (fail); try go_wp2)
        go_roundg k1
        case measure => have := HK1.out; omega
        case rel => exact ⟨(wrap64 (x5_1 + 1)), (by first | rfl | (simp; done) | (simp [*]; done)), H', ⟨by have := HK1.out; omega⟩, by repeat (first | exact Drawn0.refl _ | apply Drawn0.step)⟩
       ·
        rw [if_neg c7] at H
        have c7b0 : ((rd l0 x5_1) == (rd l1 x5_1)) = false := beq_eq_false_iff_ne.mpr c7
        have c7b1 : ((rd l0 x5_1) != (rd l1 x5_1)) = true := bne_iff_ne.mpr c7
        obtain rfl := Option.some.inj H
        have p424 : 0 ≤ (x5_1 : Int) := of_decide_eq_true (by first | (with_reducible assumption) | assumption)
        have q424 : x5_1 < (l0.length : Int) := of_decide_eq_true (by first | (with_reducible assumption) | assumption)
        obtain ⟨ad424, e424, hx424_0⟩ := Kd.at_int HR0.out x5_1 p424 q424
        cases e424
        replace p424 := eq_true p424
        replace q424 := eq_true q424
        have p425 : 0 ≤ (x5_1 : Int) := of_decide_eq_true (by first | (with_reducible assumption) | assumption)
        have q425 : x5_1 < (l1.length : Int) := of_decide_eq_true (by first | (with_reducible assumption) | assumption)
        obtain ⟨ad425, e425, hx425_0⟩ := Kd.at_int HR1.out x5_1 p425 q425
        cases e425
        replace p425 := eq_true p425
        replace q425 := eq_true q425
        go_wp2
        repeat (go_quiet (fail); try go_wp2)
        go_ret
        exact ⟨by first | rfl | (simp; done) | (simp [*]; done), by repeat (first | exact Drawn0.refl _ | apply Drawn0.step)⟩
      ·
       rw [if_neg c6] at H
       exact absurd H (by simp)
     ·
      rw [if_neg c5] at H
      exact absurd H (by simp)
    ·
     rw [if_neg c4] at H
     have c4b0 : decide (x5_1 < (l0.length : Int)) = false := decide_eq_false c4
     clear c4
     obtain rfl := Option.some.inj H
     go_wp2
     repeat (go_quiet (fail); try go_wp2)
     go_ret
     exact ⟨by first | rfl | (simp; done) | (simp [*]; done), by repeat (first | exact Drawn0.refl _ | apply Drawn0.step)⟩
 ·
  rw [if_neg c3] at H
  have c3b0 : ((l0.length : Int) == (l1.length : Int)) = false := beq_eq_false_iff_ne.mpr c3
  have c3b1 : ((l0.length : Int) != (l1.length : Int)) = true := bne_iff_ne.mpr c3
  have c3b2 : (l0.length == l1.length) = false := by first | simpa using c3 | (simp at c3 ⊢; omega)
  obtain rfl := Option.some.inj H
  go_enter Tryz.func80, Tryz.ntmps80
  go_wp2
  repeat (go_quiet (fail); try go_wp2)
  go_ret
  exact ⟨by first | rfl | (simp; done) | (simp [*]; done), by repeat (first | exact Drawn0.refl _ | apply Drawn0.step)⟩
def redpencillaw12_chars.f (k : Nat) (l0 : List (S35)) (l1 : List Int) (a2 : Int) : Option (Bool) := (index_Runes.f k l0).bind fun bt426 => ((redpencilref02_Same.f k bt426.1 l1).bind fun t430 => (if t430 = true then (some (bt426.2 == a2)) else (some false)))
set_option maxHeartbeats 8000000 in
set_option maxRecDepth 100000 in
theorem redpencillaw12_chars.calls (k : Nat) (A0 : Option Addr) (c0 : Nat) (l0 : List (S35)) (A1 : Option Addr) (c1 : Nat) (l1 : List Int) (a2 : Int) (r : Bool) (w : World) (hr0 : Kd.C k35 w A0 l0.length l0) (hc0 : l0.length ≤ c0) (hr1 : Kd.C (Kd.int .i32) w A1 l1.length l1) (hc1 : l1.length ≤ c1) (h : redpencillaw12_chars.f k l0 l1 a2 = some r) :
  Calls Tryz.prog 36 #[.slice A0 l0.length c0, .slice A1 l1.length c1, .int .i64 a2] w fun e w' => e = .returned (.bool r) ∧ Below w.heap.size w w' := by
 have HR0 := Aside0.mk hr0
 have HC0 := Aside0.mk hc0
 clear hr0 hc0
 have HR1 := Aside0.mk hr1
 have HC1 := Aside0.mk hc1
 clear hr1 hc1
 have HB := Aside0.mk (Below.refl w.heap.size w)
 have H : ((index_Runes.f k l0).bind fun bt426 => ((redpencilref02_Same.f k bt426.1 l1).bind fun t430 => (if t430 = true then (some (bt426.2 == a2)) else (some false)))) = some r := h
 clear h
 replace H := Option.bind_eq_some_iff.mp H
 obtain ⟨⟨t426, t427⟩, A40, H⟩ := H
 replace H : ((redpencilref02_Same.f k t426 l1).bind fun t430 => (if t430 = true then (some (t427 == a2)) else (some false))) = some r := H
 have A4 := Aside0.mk A40
 clear A40
 replace H := Option.bind_eq_some_iff.mp H
 obtain ⟨t430, A50, H⟩ := H
 replace H : (if t430 = true then (some (t427 == a2)) else (some false)) = some r := H
 have A5 := Aside0.mk A50
 clear A50
 by_cases c6 : t430 = true
 ·
  subst c6
  have H1 : (some (t427 == a2)) = some r := by rw [if_pos rfl] at H; exact H
  clear H
  have H := H1
  clear H1
  obtain rfl := Option.some.inj H
  go_enter Tryz.func36, Tryz.ntmps36
  go_wp2_with (first | ((with_reducible refine gate_callee (f := 79) rfl ?_); refine goesL_ (some 11) rfl rfl Tryz.func79 (by kernel_rfl) rfl #[.slice A0 l0.length c0] rfl (by (try simp only [List.map_toArray, List.map_cons, List.map_nil]); first | done | rfl | (simp only [List.length_drop, List.length_take]; rfl)) ?_; (with_reducible refine (index_Runes.calls k _ _ l0 t426 t427 _ ?side1 ?side2 A4.out).mono ?_); (case side1 => repeat (first | exact HR0.out | (with_reducible refine Kd.C_alloc ?_ _) | (with_reducible refine Kd.C_drewN ?_ _) | (with_reducible refine Kd.C_drew ?_))); (case side2 => exact HC0.out); rintro e w7 ⟨v428, rfl, ho0, hb⟩; refine ⟨_, rfl, ?_⟩; have n0_ := Aside0.mk (Kd.R_lower ho0 (below_size (by repeat (first | (with_reducible first | exact HB.out | apply below_alloc | apply pw_below_drewN | apply below_drew1) | exact HB.out)))); have n1_ := Aside0.mk (below_step (by repeat (first | (with_reducible first | exact HB.out | apply below_alloc | apply pw_below_drewN | apply below_drew1) | exact HB.out)) hb); clear HB; have HO429 := n0_; have HB := n1_; clear n0_ n1_; (try clear hb); (try clear hb2); (try clear hk); (try clear hi); (try clear ho0); obtain ⟨Ao8, co8, eo8⟩ := Kd.R_slice HO429.out; subst eo8) | ((with_reducible refine gate_callee (f := 80) rfl ?_); refine goesL_ (some 16) rfl rfl Tryz.func80 (by kernel_rfl) rfl #[.slice Ao8 t426.length co8, .slice A1 l1.length c1] rfl (by (try simp only [List.map_toArray, List.map_cons, List.map_nil]); first | done | rfl | (simp only [List.length_drop, List.length_take]; rfl)) ?_; (with_reducible refine (redpencilref02_Same.calls k _ _ t426 _ _ l1 true _ ?side1 ?side2 ?side3 ?side4 A5.out).mono ?_); (case side1 => repeat (first | exact (Kd.R_reads' HO429.out).2.2 | (with_reducible refine Kd.C_alloc ?_ _) | (with_reducible refine Kd.C_drewN ?_ _) | (with_reducible refine Kd.C_drew ?_))); (case side2 => exact (Kd.R_reads' HO429.out).2.1); (case side3 => repeat (first | exact (Kd.C_below HR1.out HB.out) | (with_reducible refine Kd.C_alloc ?_ _) | (with_reducible refine Kd.C_drewN ?_ _) | (with_reducible refine Kd.C_drew ?_))); (case side4 => exact HC1.out); rintro e w' ⟨rfl, ⟨nd, rfl⟩⟩; refine ⟨_, rfl, ?_⟩))
  go_ret
  exact ⟨by first | rfl | (simp [errW_none, errW_some] <;> rfl) | (simp [*, errW_none, errW_some] <;> rfl), by repeat (first | (with_reducible first | exact HB.out | apply below_alloc | apply pw_below_drewN | apply below_drew1) | exact HB.out)⟩
 ·
  replace c6 := Bool.eq_false_iff.mpr c6
  subst c6
  have H1 : (some false) = some r := by rw [if_neg (show ¬ (false = true) by decide)] at H; exact H
  clear H
  have H := H1
  clear H1
  obtain rfl := Option.some.inj H
  go_enter Tryz.func36, Tryz.ntmps36
  go_wp2_with (first | ((with_reducible refine gate_callee (f := 79) rfl ?_); refine goesL_ (some 11) rfl rfl Tryz.func79 (by kernel_rfl) rfl #[.slice A0 l0.length c0] rfl (by (try simp only [List.map_toArray, List.map_cons, List.map_nil]); first | done | rfl | (simp only [List.length_drop, List.length_take]; rfl)) ?_; (with_reducible refine (index_Runes.calls k _ _ l0 t426 t427 _ ?side1 ?side2 A4.out).mono ?_); (case side1 => repeat (first | exact HR0.out | (with_reducible refine Kd.C_alloc ?_ _) | (with_reducible refine Kd.C_drewN ?_ _) | (with_reducible refine Kd.C_drew ?_))); (case side2 => exact HC0.out); rintro e w9 ⟨v428, rfl, ho0, hb⟩; refine ⟨_, rfl, ?_⟩; have n0_ := Aside0.mk (Kd.R_lower ho0 (below_size (by repeat (first | (with_reducible first | exact HB.out | apply below_alloc | apply pw_below_drewN | apply below_drew1) | exact HB.out)))); have n1_ := Aside0.mk (below_step (by repeat (first | (with_reducible first | exact HB.out | apply below_alloc | apply pw_below_drewN | apply below_drew1) | exact HB.out)) hb); clear HB; have HO429 := n0_; have HB := n1_; clear n0_ n1_; (try clear hb); (try clear hb2); (try clear hk); (try clear hi); (try clear ho0); obtain ⟨Ao10, co10, eo10⟩ := Kd.R_slice HO429.out; subst eo10) | ((with_reducible refine gate_callee (f := 80) rfl ?_); refine goesL_ (some 16) rfl rfl Tryz.func80 (by kernel_rfl) rfl #[.slice Ao10 t426.length co10, .slice A1 l1.length c1] rfl (by (try simp only [List.map_toArray, List.map_cons, List.map_nil]); first | done | rfl | (simp only [List.length_drop, List.length_take]; rfl)) ?_; (with_reducible refine (redpencilref02_Same.calls k _ _ t426 _ _ l1 false _ ?side1 ?side2 ?side3 ?side4 A5.out).mono ?_); (case side1 => repeat (first | exact (Kd.R_reads' HO429.out).2.2 | (with_reducible refine Kd.C_alloc ?_ _) | (with_reducible refine Kd.C_drewN ?_ _) | (with_reducible refine Kd.C_drew ?_))); (case side2 => exact (Kd.R_reads' HO429.out).2.1); (case side3 => repeat (first | exact (Kd.C_below HR1.out HB.out) | (with_reducible refine Kd.C_alloc ?_ _) | (with_reducible refine Kd.C_drewN ?_ _) | (with_reducible refine Kd.C_drew ?_))); (case side4 => exact HC1.out); rintro e w' ⟨rfl, ⟨nd, rfl⟩⟩; refine ⟨_, rfl, ?_⟩))
  go_ret
  exact ⟨by first | rfl | (simp [errW_none, errW_some] <;> rfl) | (simp [*, errW_none, errW_some] <;> rfl), by repeat (first | (with_reducible first | exact HB.out | apply below_alloc | apply pw_below_drewN | apply below_drew1) | exact HB.out)⟩
end Go.Proofs.YtjlpaagnajmogaaGreat.PWalk
end
section
namespace Go.Proofs.YtjlpaagnajmogaaGreat.PWalk
end Go.Proofs.YtjlpaagnajmogaaGreat.PWalk
end
section
namespace Go.Proofs.YtjlpaagnajmogaaGreat.PWalk
open Go.RowKit Go.Proofs.YtjlpaagnajmogaaGreatW.PrintWords Go.Proofs.YtjlpaagnajmogaaGreatW.PrintLast Go.Proofs.YtjlpaagnajmogaaGreatW.PrintMore
set_option linter.unusedVariables false
set_option linter.unusedSimpArgs false
open Go.Shelf
attribute [local go_sem] Oper.semAt_some
def runesOf (ll : List Node) : List Int := (visOf ll).map (·.f3)
theorem mem_vis {ll : List Node} (hs : storeOk ll = true) {x : Node} (h : x ∈ visOf ll) : x ∈ ll ∧ ¬ x.f3 = 0 := by
 unfold visOf aliveOf at h
 rw [List.mem_filter] at h
 obtain ⟨h1, h2⟩ := h
 unfold nds at h1
 rw [List.mem_map] at h1
 obtain ⟨p, hp, rfl⟩ := h1
 exact ⟨ord_mem (store_of hs) hp, by simpa using h2⟩
theorem runesOf_len {ll : List Node} (hs : storeOk ll = true) : (runesOf ll).length ≤ ll.length := by unfold runesOf; rw [List.length_map]; exact vis_len hs
theorem runes_from (v : List Node) (hl : v.length ≤ 1000000) (e : Int) : ∀ (q k i : Nat), i + q = v.length → q < k → index_Runes.l0 k e ((v.take i).map (·.f3)) v (v.length : Int) (i : Int) = some (v.map (·.f3), e) := by
 intro q
 induction q with
 | zero =>
  intro k i hi hk
  obtain ⟨k, rfl⟩ : ∃ m, k = m + 1 := ⟨k - 1, by omega⟩
  simp only [index_Runes.l0]
  rw [if_neg (by omega), show i = v.length by omega, List.take_length]
 | succ q ih =>
  intro k i hi hk
  obtain ⟨k, rfl⟩ : ∃ m, k = m + 1 := ⟨k - 1, by omega⟩
  have hlt : i < v.length := by omega
  simp only [index_Runes.l0]
  rw [if_pos (by omega), if_pos (by omega), if_pos (by omega), rdN hlt, wrap_succ hlt hl, if_pos (by rw [List.length_map, List.length_take]; omega)]
  have hs : (v.take i).map (·.f3) ++ [v[i].f3] = (v.take (i + 1)).map (·.f3) := by rw [List.take_succ_eq_append_getElem hlt, List.map_append]; rfl
  rw [hs]
  exact ih k (i + 1) (by omega) (by omega)
theorem idxRunes_is {ll : List Node} (hl : ll.length ≤ 40) (hs : storeOk ll = true) {k : Nat} (hk : 60 ≤ k) : index_Runes.f k ll = some (runesOf ll, 0) := by
 have hv := vis_len hs
 unfold index_Runes.f
 rw [vis_is (by omega), if_pos hs]
 simp only [Option.bind_some]
 exact runes_from (visOf ll) (by omega) 0 (visOf ll).length k 0 (by omega) (by omega)
theorem refRunes_from (v : List Node) (hl : v.length ≤ 1000000) : ∀ (q k i : Nat), i + q = v.length → q < k → redpencilref12_Runes.l0 k ((v.take i).map (·.f3)) v (i : Int) = some (v.map (·.f3)) := by
 intro q
 induction q with
 | zero =>
  intro k i hi hk
  obtain ⟨k, rfl⟩ : ∃ m, k = m + 1 := ⟨k - 1, by omega⟩
  simp only [redpencilref12_Runes.l0]
  rw [if_neg (by omega), show i = v.length by omega, List.take_length]
 | succ q ih =>
  intro k i hi hk
  obtain ⟨k, rfl⟩ : ∃ m, k = m + 1 := ⟨k - 1, by omega⟩
  have hlt : i < v.length := by omega
  simp only [redpencilref12_Runes.l0]
  rw [if_pos (by omega), if_pos (by omega), rdN hlt, wrap_succ hlt hl, if_pos (by rw [List.length_map, List.length_take]; omega)]
  have hs : (v.take i).map (·.f3) ++ [v[i].f3] = (v.take (i + 1)).map (·.f3) := by rw [List.take_succ_eq_append_getElem hlt, List.map_append]; rfl
  rw [hs]
  exact ih k (i + 1) (by omega) (by omega)
theorem refRunes_is {ll : List Node} (hl : ll.length ≤ 40) (hs : storeOk ll = true) {k : Nat} (hk : 60 ≤ k) : redpencilref12_Runes.f k ll = some (runesOf ll) := by
 have hv := vis_len hs
 unfold redpencilref12_Runes.f
 rw [visible_is hl hs k hk]
 simp only [Option.bind_some]
 exact refRunes_from (visOf ll) (by omega) (visOf ll).length k 0 (by omega) (by omega)
theorem sameI_from (l : List Int) (hl : l.length ≤ 1000000) : ∀ (q k i : Nat), i + q = l.length → q < k → redpencilref02_Same.l0 k l l (i : Int) = some true := by
 intro q
 induction q with
 | zero =>
  intro k i hi hk
  obtain ⟨k, rfl⟩ : ∃ m, k = m + 1 := ⟨k - 1, by omega⟩
  simp only [redpencilref02_Same.l0]
  rw [if_neg (by omega)]
 | succ q ih =>
  intro k i hi hk
  obtain ⟨k, rfl⟩ : ∃ m, k = m + 1 := ⟨k - 1, by omega⟩
  have hlt : i < l.length := by omega
  simp only [redpencilref02_Same.l0]
  rw [if_pos (by omega), if_pos (by omega), if_pos (by omega), if_pos trivial, wrap_succ hlt hl]
  exact ih k (i + 1) (by omega) (by omega)
theorem sameI_is (l : List Int) (hl : l.length ≤ 1000000) (k : Nat) (hk : l.length < k) : redpencilref02_Same.f k l l = some true := by
 unfold redpencilref02_Same.f
 rw [if_pos rfl]
 exact sameI_from l hl l.length k 0 (by omega) hk
theorem chars_ok {ll : List Node} (hl : ll.length ≤ 40) (hs : storeOk ll = true) {k : Nat} (hk : 60 ≤ k) : redpencillaw12_chars.f k ll (runesOf ll) 0 = some true := by
 have := runesOf_len hs
 unfold redpencillaw12_chars.f
 rw [idxRunes_is hl hs hk]
 simp only [Option.bind_some]
 rw [sameI_is _ (by omega) k (by omega)]
 rfl
theorem has_ok {ll : List Node} (hl : ll.length ≤ 40) (hs : storeOk ll = true) : redpencillaw12_has.f ll ((runesOf ll).length : Int) 0 = some true := by
 unfold redpencillaw12_has.f index_Len.f
 rw [vis_is (by omega), if_pos hs]
 simp [runesOf]
end Go.Proofs.YtjlpaagnajmogaaGreat.PWalk
end
