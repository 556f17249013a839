/-
  The law WalkHolds, the theorem of stage 11: each node is reached or lost, and how the order of the tree, what is below a node and the paths hang together. Part 10 of 10.
-/
import Derived.Test.YtjlpaagnajmogaaGreatHI
import Derived.Test.YtjlpaagnajmogaaGreatRows
import Derived.WalkKit
import Derived.ProofKit
import Derived.OpenShut
import Derived.ShutString
import Derived.ChangeOld
import Derived.Below
import Derived.SizedLaws
import Derived.Deep.DeepHandedRow
import Derived.Deep.Slices
import Derived.Lib.SmallJoins
section
namespace Go.Proofs.YtjlpaagnajmogaaGreat.PWalk
open Go.RowKit Go.Proofs.YtjlpaagnajmogaaGreatW.PrintWords Go.Proofs.YtjlpaagnajmogaaGreatW.PrintLast Go.Proofs.YtjlpaagnajmogaaGreatW.PrintMore
set_option linter.unusedVariables false
set_option linter.unusedSimpArgs false
open Go.Shelf
attribute [local go_sem] Oper.semAt_some
theorem op_append_dotN {o : Oper} {a : Act} {K : Act → World → Prop} {Q : Exit → Act → World → Prop} {W : World} (base : Nat) (hgd : o.guard = none) (s x : Operand)
  (ho : o.op = .call { callee := .builtin .append, args := #[s, x], argTypes := #[41, 41] }) (v : Value) (xs ys : List Dot) (A : Option Addr) (m c : Nat) (hs : a.eval s = v) (hx : a.eval x = .slice A m c)
  (hr : RD W base v xs) (hc : Kd.C k24 W A m ys) (hb : base ≤ W.heap.size) (hl : xs.length + m ≤ 1000000)
  (h : ∀ v1 w1, RD w1 base v1 (xs ++ ys) → W.grownBy w1 v.ownBlock → (v1.ownBlock = v.ownBlock ∨ ∃ b, v1.ownBlock = some b ∧ W.heap.size ≤ b) → K (a.put o.dst v1) w1) : o.wp Tryz.prog a W K Q := by
 have hw : Region.wanted o (yielded #[] a.tmps) = true := by simp [Region.wanted, hgd]
 have := Kd.R_append_rows_step (P := Tryz.prog) (ops := #[]) (Q := Q) (Kc := K) k24 (w0 := W) base hw s x 41 24 (.agg #[(.int .i64 0), (.int .i64 0)]) 16 ho Tryz.underlying41 infoD rfl (by decide) (by decide) v xs ys A m c (fun _ => True) (fun _ => False) hs hx hr hc (fun x cs h => (by rw [k24_open h]; exact k24_mkM _ _ _ x)) (fun _ hk => hk.elim) (fun _ _ => trivial) (Below.refl _ _) hb (by omega)
  (fun v1 w1 h1 _ h3 h4 => h v1 w1 h1 h3 h4)
 rwa [if_pos hw] at this
theorem grown_belowD {W0 V V' : World} {v : Value} {xs : List Dot} (hb : Below W0.heap.size W0 V) (hr : RD V W0.heap.size v xs) (hg : V.grownBy V' v.ownBlock) : Below W0.heap.size W0 V' :=
 hb.grown hg hb.size (fun k e => (RD.block hr e).1)
theorem dotC_C {W : World} {g : Nat} {d : Dot} (h : W.heap[g]? = some (dotC d)) : Kd.C k24 W (some ⟨g, 0, none⟩) 1 [d] := by
 refine ⟨rfl, by simp, fun _ => ⟨_, rfl, fun i y hi => ?_⟩⟩
 have h0 : i = 0 := by
  have := (List.getElem?_eq_some_iff.1 hi).1
  simp at this; exact this
 subst h0
 simp at hi
 subst hi
 refine ⟨dotCells d, rfl, k24.K_of_M (k24_mkM W 0 (fun _ => True) d), fun j u hu => ?_⟩
 rw [show (⟨g, 0, none⟩ : Addr).add (0 * (k24).sz + j) = ⟨g, j, none⟩ by rw [Nat.zero_mul, Nat.zero_add, add_lit, Nat.zero_add]]
 rw [blk_cell h, ← Array.getElem?_toList]
 exact hu
/-- What has come up in the triple append. -/
structure RwF (W0 : World) (s : List Dot) (d : Dot) (k : Nat) (l3 l5 l6 l10 l11 : Bool) (g : Nat) (v1 v2 v3 : Value) (V : World) : Prop where
 ord6 : l6 = true → l3 = true ∧ l5 = true
 ord10 : l10 = true → l6 = true
 ord11 : l11 = true → l10 = true
 below : Below W0.heap.size W0 V
 r1 : l3 = true → l6 = false → RD V W0.heap.size v1 (s.take k)
 bx : l5 = true → l6 = false → V.heap[g]? = some (dotC d)
 r2 : l6 = true → l10 = false → RD V W0.heap.size v2 (s.take k ++ [d])
 r3 : l10 = true → RD V W0.heap.size v3 (withD s d)
theorem RwF.no {W0 : World} {s : List Dot} {d : Dot} {k : Nat} {l3 l5 l6 l10 l11 : Bool} {g : Nat} {v1 v2 v3 : Value} {V : World} (h : RwF W0 s d k l3 l5 l6 l10 l11 g v1 v2 v3 V) (hl : l3 = false ∨ l5 = false) : l6 = false ∧ l10 = false ∧ l11 = false := by
 have h6 : l6 = false := by
  cases l6 with
  | false => rfl
  | true => obtain ⟨rfl, rfl⟩ := h.ord6 rfl; rcases hl with e | e <;> cases e
 have h10 : l10 = false := by
  cases l10 with
  | false => rfl
  | true => have := h.ord10 rfl; rw [h6] at this; cases this
 refine ⟨h6, h10, ?_⟩
 cases l11 with
 | false => rfl
 | true => have := h.ord11 rfl; rw [h10] at this; cases this
def rw4Inv (W0 : World) (ad : Addr) (n c0 B k : Nat) (y d : Dot) (b1 b2 : Bool) (z1 z2 z4 z6 z7 z8 z9 z10 z11 z12 z13 z14 z15 z16 z17 z18 z19 z20 z21 z22 z23 z24 z25 z26 z27 z28 z29 z30 z31 z32 z33 z34 : Value) (L : Array Bool) (ac : Act) (V : World) : Prop := ∃ (l0 l1 l2 l3 l4 l5 l6 l7 l8 l9 l10 l11 : Bool), L = #[l0, l1, l2, l3, l4, l5, l6, l7, l8, l9, l10, l11] ∧ ac = { tmps := #[.slice (some ad) n c0, z1, z2, .pointer (some ⟨B, 0, none⟩), z4, .int .i64 (k : Int), z6, z7, z8, z9, selv l0 (.int .i64 (k : Int)) (z10), selv l1 (.slice (some ad) n c0) (z11), selv l2 (.int .i64 (n : Int)) (z12), selv l3 (.bool b1) (z13), selv l4 (.bool b1) (z14), selv l5 (.slice (some ad) n c0) (z15), selv l6 (.int .i64 (k : Int)) (z16), selv l7 (.pointer (some (ad.add (k * 2)))) (z17), selv l8 (vDot y) (z18), selv l9 (vDot d) (z19), selv l10 (.bool b2) (z20), selv l11 (.bool b2) (z21), z22, z23, z24, z25, z26, z27, z28, z29, z30, z31, z32, z33, z34], defers := [] } ∧ Aside0 (Below W0.heap.size W0 V)
def rw4eInv (W0 : World) (Ao : Option Addr) (n c0 B k : Nat) (y d : Dot) (b1 b2 : Bool) (z1 z2 z4 z6 z7 z8 z9 z10 z11 z12 z13 z14 z15 z16 z17 z18 z19 z20 z21 z22 z23 z24 z25 z26 z27 z28 z29 z30 z31 z32 z33 z34 : Value) (L : Array Bool) (ac : Act) (V : World) : Prop := ∃ (l0 l1 l2 l3 l4 l5 l6 l7 l8 l9 l10 l11 : Bool), L = #[l0, l1, l2, l3, l4, l5, l6, l7, l8, l9, l10, l11] ∧ ac = { tmps := #[.slice Ao n c0, z1, z2, .pointer (some ⟨B, 0, none⟩), z4, .int .i64 (k : Int), z6, z7, z8, z9, selv l0 (.int .i64 (k : Int)) (z10), selv l1 (.slice Ao n c0) (z11), selv l2 (.int .i64 (n : Int)) (z12), selv l3 (.bool b1) (z13), selv l4 (.bool b1) (z14), selv l5 (undef) (z15), selv l6 (undef) (z16), selv l7 (undef) (z17), selv l8 (undef) (z18), selv l9 (undef) (z19), selv l10 (undef) (z20), selv l11 (.bool b2) (z21), z22, z23, z24, z25, z26, z27, z28, z29, z30, z31, z32, z33, z34], defers := [] } ∧ Aside0 (Below W0.heap.size W0 V)
def rw6Inv (W0 : World) (Ao Ac : Option Addr) (n c0 B k m3 q3 : Nat) (d : Dot) (s : List Dot) (z1 z2 z6 z7 z8 z9 z10 z11 z12 z13 z14 z15 z16 z17 z18 z19 z20 z21 z22 z23 z24 z25 z26 z27 z28 z29 z30 z31 z32 z33 z34 : Value) (L : Array Bool) (ac : Act) (V : World) : Prop := ∃ (l0 l1 l2 l3 l4 l5 l6 l7 l8 l9 l10 l11 : Bool) (g : Nat) (v1 : Value) (v2 : Value) (v3 : Value), L = #[l0, l1, l2, l3, l4, l5, l6, l7, l8, l9, l10, l11] ∧ ac = { tmps := #[.slice Ao n c0, z1, z2, .pointer (some ⟨B, 0, none⟩), selv l11 (v3) (.slice none 0 0), .int .i64 (k : Int), z6, z7, z8, z9, z10, z11, z12, z13, z14, z15, z16, z17, z18, z19, z20, z21, z22, z23, selv l0 (.slice Ao n c0) (z24), selv l1 (.int .i64 (k : Int)) (z25), selv l2 (.slice Ao k c0) (z26), selv l3 (v1) (z27), selv l4 (vDot d) (z28), selv l5 (.slice (some ⟨g, 0, none⟩) 1 1) (z29), selv l6 (v2) (z30), selv l7 (.slice Ao n c0) (z31), selv l8 (.int .i64 (k : Int)) (z32), selv l9 (.slice Ac m3 q3) (z33), selv l10 (v3) (z34)], defers := [] } ∧ Aside0 (RwF W0 s d k l3 l5 l6 l10 l11 g v1 v2 v3 V)
set_option maxHeartbeats 4000000 in
set_option maxRecDepth 100000 in
theorem refWith_call (base : Nat) (A0 : Option Addr) (n c0 : Nat) (s : List Dot) (d : Dot) (w : World) (hs : RD w base (.slice A0 n c0) s) (hb : base ≤ w.heap.size) (hl : n ≤ 400000) :
  Calls Tryz.prog 73 #[.slice A0 n c0, vDot d] w fun e w' => ∃ v, e = .returned v ∧ RD w' base v (withD s d) ∧ Below w.heap.size w w' := by
 obtain ⟨hn, hnc, hC⟩ := RD.C hs
 have HS := Aside0.mk hs
 have HBS := Aside0.mk hb
 have Hn := Aside0.mk hn
 have HNC := Aside0.mk hnc
 have HC := Aside0.mk hC
 have HB0 := Aside0.mk (Gr.alloc w (dotC d)).below
 have HK0 := Aside0.mk (blk_new w (dotC d))
 have hhas := redpencilref04_Has.calls 1000002 A0 c0 s d.f0 d.f1 (decide (d ∈ s)) (w.alloc (dotC d)) (by rw [hn]; exact Kd.C_below hC HB0.out) (by rw [hn]; exact hnc) (refHas_is s (by omega) d 1000002 (by omega))
 rw [hn] at hhas
 have HH := Aside0.mk hhas
 have k0 : (w.alloc (dotC d)).cell? ⟨w.heap.size, 0, none⟩ = _ := (blk_cell HK0.out 0).trans rfl
 have k1 : (w.alloc (dotC d)).cell? ⟨w.heap.size, 1, none⟩ = _ := (blk_cell HK0.out 1).trans rfl
 have HN4 := Aside0.mk hl
 clear hs hb hn hnc hC hhas
 go_enter Tryz.func73, Tryz.ntmps73
 go_wp2_with fail
 refine HH.out.mono ?_
 rintro e w1 ⟨rfl, hb⟩
 have HB1 := Aside0.mk (below_more HB0.out hb)
 have HK1 := Aside0.mk (blk_keep HK0.out hb)
 clear hb k0 k1 HK0 HB0 HH
 obtain ⟨b, Hb⟩ : ∃ b, Aside0 (decide (d ∈ s) = b) := ⟨_, ⟨rfl⟩⟩
 rw [Hb.out]
 cases b with
 | true =>
  go_wp2
  go_ret
  exact ⟨_, rfl, by unfold withD; rw [if_pos (of_decide_eq_true Hb.out)]; exact RD.below' HS.out HB1.out, HB1.out⟩
 | false =>
  have HND : Aside0 (d ∉ s) := ⟨of_decide_eq_false Hb.out⟩
  obtain ⟨B, HBe⟩ : ∃ B, Aside0 (w.heap.size = B) := ⟨_, ⟨rfl⟩⟩
  rw [HBe.out] at HK1
  go_wp2
  rw [show (Value.pointer (some { block := w.heap.size, off := 0 })) = .pointer (some ⟨B, 0, none⟩) by rw [HBe.out]]
  go_loopw [5] (fun j wr => ∃ k : Nat, k ≤ n ∧ j = .int .i64 k ∧ Aside0 (∀ q y, q < k → s[q]? = some y → dotLt y d = true) ∧ Aside0 (Below w1.heap.size w1 wr)) (fun j _ => n - (intOf j).toNat)
  case atStart => exact ⟨0, Nat.zero_le _, rfl, ⟨fun q y hq => absurd hq (Nat.not_lt_zero _)⟩, ⟨Below.refl _ _⟩⟩
  case round =>
   obtain ⟨k, hk, rfl, HPRE, HB2⟩ := hrel
   by_cases hkl : k < n
   ·
    obtain ⟨y, Hy⟩ : ∃ y, Aside0 (s[k]? = some y) := ⟨_, ⟨List.getElem?_eq_getElem (by rw [Hn.out]; exact hkl)⟩⟩
    obtain ⟨ad, e, y0, y1⟩ := dot_at HC.out (below_more HB1.out HB2.out) k y Hy.out
    subst e
    have HY := Aside0.mk (And.intro y0 y1)
    have HKB := Aside0.mk (blk_keep HK1.out HB2.out)
    have HKN : Aside0 (k < n ∧ n ≤ 400000) := ⟨hkl, HN4.out⟩
    clear y0 y1
    obtain ⟨b, Hb2⟩ : ∃ b, Aside0 (dotLt y d = b) := ⟨_, ⟨rfl⟩⟩
    cases b with
    | true =>
     go_wp2
     refine AnyOrder.wp_region (by kernel_rfl) (rw4Inv wr.drew ad n c0 B k y d true true _ _ _ _ _ _ _ _ _ _ _ _ _ _ _ _ _ _ _ _ _ _ _ _ _ _ _ _ _ _ _ _) ⟨false, false, false, false, false, false, false, false, false, false, false, false, rfl, rfl, ⟨Below.refl _ _⟩⟩ ?step ?last
     case step =>
      rintro L ac V i ⟨l0, l1, l2, l3, l4, l5, l6, l7, l8, l9, l10, l11, rfl, rfl, HF⟩ hi K hK
      have h1 : i = 0 ∨ i = 1 ∨ i = 2 ∨ i = 3 ∨ i = 4 ∨ i = 5 ∨ i = 6 ∨ i = 7 ∨ i = 8 ∨ i = 9 ∨ i = 10 ∨ i = 11 := by
       have h1 := (AnyOrder.mem_ready hi).1
       clear hi hK
       change i < 12 at h1
       omega
      rcases h1 with rfl | rfl | rfl | rfl | rfl | rfl | rfl | rfl | rfl | rfl | rfl | rfl
      ·
       obtain rfl : l0 = false := (AnyOrder.mem_ready hi).2.1
       clear hi
       refine AnyOrder.wpOp_go rfl (by rfl) ?_
       go_wp2_with fail
       exact ⟨true, l1, l2, l3, l4, l5, l6, l7, l8, l9, l10, l11, rfl, rfl, HF⟩
      ·
       obtain rfl : l1 = false := (AnyOrder.mem_ready hi).2.1
       clear hi
       refine AnyOrder.wpOp_go rfl (by rfl) ?_
       go_wp2_with fail
       exact ⟨l0, true, l2, l3, l4, l5, l6, l7, l8, l9, l10, l11, rfl, rfl, HF⟩
      ·
       obtain rfl : l2 = false := (AnyOrder.mem_ready hi).2.1
       obtain rfl : l1 = true := AnyOrder.dep (q := 0) hi rfl rfl rfl
       clear hi
       simp only [sel_true, selv_true] at hK ⊢
       refine AnyOrder.wpOp_go rfl (by rfl) ?_
       go_wp2_with fail
       exact ⟨l0, true, true, l3, l4, l5, l6, l7, l8, l9, l10, l11, rfl, rfl, HF⟩
      ·
       obtain rfl : l3 = false := (AnyOrder.mem_ready hi).2.1
       obtain rfl : l0 = true := AnyOrder.dep (q := 0) hi rfl rfl rfl
       obtain rfl : l2 = true := AnyOrder.dep (q := 1) hi rfl rfl rfl
       clear hi
       simp only [sel_true, selv_true] at hK ⊢
       have hdec : decide ((k : Int) < (n : Int)) = true := decide_eq_true (by omega)
       refine AnyOrder.wpOp_go rfl (by rfl) ?_
       go_wp2_with fail
       exact ⟨true, l1, true, true, l4, l5, l6, l7, l8, l9, l10, l11, rfl, rfl, HF⟩
      ·
       obtain rfl : l4 = false := (AnyOrder.mem_ready hi).2.1
       obtain rfl : l3 = true := AnyOrder.dep (q := 0) hi rfl rfl rfl
       clear hi
       simp only [sel_true, selv_true] at hK ⊢
       refine AnyOrder.wpOp_go rfl (by rfl) ?_
       go_wp2_with fail
       exact ⟨l0, l1, l2, true, true, l5, l6, l7, l8, l9, l10, l11, rfl, rfl, HF⟩
      ·
       obtain rfl : l5 = false := (AnyOrder.mem_ready hi).2.1
       obtain rfl : l4 = true := AnyOrder.dep (q := 0) hi rfl rfl rfl
       clear hi
       simp only [sel_true, selv_true] at hK ⊢
       refine AnyOrder.wpOp_go rfl (by rfl) ?_
       go_wp2_with fail
       exact ⟨l0, l1, l2, l3, true, true, l6, l7, l8, l9, l10, l11, rfl, rfl, HF⟩
      ·
       obtain rfl : l6 = false := (AnyOrder.mem_ready hi).2.1
       obtain rfl : l4 = true := AnyOrder.dep (q := 0) hi rfl rfl rfl
       clear hi
       simp only [sel_true, selv_true] at hK ⊢
       refine AnyOrder.wpOp_go rfl (by rfl) ?_
       go_wp2_with fail
       exact ⟨l0, l1, l2, l3, true, l5, true, l7, l8, l9, l10, l11, rfl, rfl, HF⟩
      ·
       obtain rfl : l7 = false := (AnyOrder.mem_ready hi).2.1
       obtain rfl : l5 = true := AnyOrder.dep (q := 0) hi rfl rfl rfl
       obtain rfl : l6 = true := AnyOrder.dep (q := 1) hi rfl rfl rfl
       obtain rfl : l4 = true := AnyOrder.dep (q := 2) hi rfl rfl rfl
       clear hi
       simp only [sel_true, selv_true] at hK ⊢
       have hkk := HKN.out.1
       have hkl2 := HKN.out.2
       refine AnyOrder.wpOp_go rfl (by rfl) ?_
       go_wp2_with fail
       exact ⟨l0, l1, l2, l3, true, true, true, true, l8, l9, l10, l11, rfl, rfl, HF⟩
      ·
       obtain rfl : l8 = false := (AnyOrder.mem_ready hi).2.1
       obtain rfl : l7 = true := AnyOrder.dep (q := 0) hi rfl rfl rfl
       obtain rfl : l4 = true := AnyOrder.dep (q := 1) hi rfl rfl rfl
       clear hi
       simp only [sel_true, selv_true] at hK ⊢
       obtain ⟨y0, y1⟩ := HY.out
       have y0 := pw_cell_below HF.out y0
       have y1 := pw_cell_below HF.out y1
       refine AnyOrder.wpOp_go rfl (by rfl) ?_
       go_wp2_with fail
       exact ⟨l0, l1, l2, l3, true, l5, l6, true, true, l9, l10, l11, rfl, rfl, HF⟩
      ·
       obtain rfl : l9 = false := (AnyOrder.mem_ready hi).2.1
       obtain rfl : l4 = true := AnyOrder.dep (q := 0) hi rfl rfl rfl
       clear hi
       simp only [sel_true, selv_true] at hK ⊢
       have hkb := blk_keep (blk_drew HKB.out) HF.out
       have q0 : V.cell? ⟨B, 0, none⟩ = _ := (blk_cell hkb 0).trans rfl
       have q1 : V.cell? ⟨B, 1, none⟩ = _ := (blk_cell hkb 1).trans rfl
       refine AnyOrder.wpOp_go rfl (by rfl) ?_
       go_wp2_with fail
       exact ⟨l0, l1, l2, l3, true, l5, l6, l7, l8, true, l10, l11, rfl, rfl, HF⟩
      ·
       obtain rfl : l10 = false := (AnyOrder.mem_ready hi).2.1
       obtain rfl : l8 = true := AnyOrder.dep (q := 0) hi rfl rfl rfl
       obtain rfl : l9 = true := AnyOrder.dep (q := 1) hi rfl rfl rfl
       obtain rfl : l4 = true := AnyOrder.dep (q := 2) hi rfl rfl rfl
       clear hi
       simp only [sel_true, selv_true] at hK ⊢
       refine AnyOrder.wpOp_go rfl (by rfl) ?_
       go_wp2_with fail
       refine (redpencilref04_Less.calls _ _ _ _ true V (by rw [less_is, Hb2.out])).mono ?_
       rintro e V' ⟨rfl, hb⟩
       exact hK _ _ ⟨l0, l1, l2, l3, true, l5, l6, l7, true, true, true, l11, rfl, rfl, ⟨below_more HF.out hb⟩⟩
      ·
       obtain rfl : l11 = false := (AnyOrder.mem_ready hi).2.1
       obtain rfl : l4 = true := AnyOrder.dep (q := 0) hi rfl rfl rfl
       obtain rfl : l10 = true := AnyOrder.dep (q := 1) hi rfl rfl rfl
       clear hi
       simp only [sel_true, selv_true] at hK ⊢
       refine AnyOrder.wpOp_go rfl (by rfl) ?_
       go_wp2_with fail
       exact ⟨l0, l1, l2, l3, true, l5, l6, l7, l8, l9, true, true, rfl, rfl, HF⟩
     case last =>
      rintro L ac V ⟨l0, l1, l2, l3, l4, l5, l6, l7, l8, l9, l10, l11, rfl, rfl, HF⟩ hr
      have hall := AnyOrder.all_listed rfl (by kernel_rfl) hr
      clear hr
      obtain rfl : l0 = true := hall 0 (by decide)
      obtain rfl : l1 = true := hall 1 (by decide)
      obtain rfl : l2 = true := hall 2 (by decide)
      obtain rfl : l3 = true := hall 3 (by decide)
      obtain rfl : l4 = true := hall 4 (by decide)
      obtain rfl : l5 = true := hall 5 (by decide)
      obtain rfl : l6 = true := hall 6 (by decide)
      obtain rfl : l7 = true := hall 7 (by decide)
      obtain rfl : l8 = true := hall 8 (by decide)
      obtain rfl : l9 = true := hall 9 (by decide)
      obtain rfl : l10 = true := hall 10 (by decide)
      obtain rfl : l11 = true := hall 11 (by decide)
      clear hall
      simp only [sel_true, selv_true]
      have HHF := Aside0.mk (below_more (below_drew1 HB2.out) HF.out)
      have hno4 := HN4.out
      go_wp2
      go_roundw
      case rel => exact ⟨k + 1, by omega, by go_num, ⟨fun q z hq hz => by rcases Nat.lt_succ_iff_lt_or_eq.1 hq with h | h; exact HPRE.out q z h hz; subst h; rw [Hy.out] at hz; cases hz; exact Hb2.out⟩, HHF⟩
      case measure => simp [intOf] <;> omega
    | false =>
     have HCUT : Aside0 (withD s d = s.take k ++ [d] ++ s.drop k) := ⟨by unfold withD; rw [if_neg HND.out, cutD_is (k := k) (by rw [Hn.out]; exact hk) HPRE.out (fun z hz => by rw [Hy.out] at hz; cases hz; exact Hb2.out)]; simp⟩
     go_wp2
     refine AnyOrder.wp_region (by kernel_rfl) (rw4Inv wr.drew ad n c0 B k y d true false _ _ _ _ _ _ _ _ _ _ _ _ _ _ _ _ _ _ _ _ _ _ _ _ _ _ _ _ _ _ _ _) ⟨false, false, false, false, false, false, false, false, false, false, false, false, rfl, rfl, ⟨Below.refl _ _⟩⟩ ?step ?last
     case step =>
      rintro L ac V i ⟨l0, l1, l2, l3, l4, l5, l6, l7, l8, l9, l10, l11, rfl, rfl, HF⟩ hi K hK
      have h1 : i = 0 ∨ i = 1 ∨ i = 2 ∨ i = 3 ∨ i = 4 ∨ i = 5 ∨ i = 6 ∨ i = 7 ∨ i = 8 ∨ i = 9 ∨ i = 10 ∨ i = 11 := by
       have h1 := (AnyOrder.mem_ready hi).1
       clear hi hK
       change i < 12 at h1
       omega
      rcases h1 with rfl | rfl | rfl | rfl | rfl | rfl | rfl | rfl | rfl | rfl | rfl | rfl
      ·
       obtain rfl : l0 = false := (AnyOrder.mem_ready hi).2.1
       clear hi
       refine AnyOrder.wpOp_go rfl (by rfl) ?_
       go_wp2_with fail
       exact ⟨true, l1, l2, l3, l4, l5, l6, l7, l8, l9, l10, l11, rfl, rfl, HF⟩
      ·
       obtain rfl : l1 = false := (AnyOrder.mem_ready hi).2.1
       clear hi
       refine AnyOrder.wpOp_go rfl (by rfl) ?_
       go_wp2_with fail
       exact ⟨l0, true, l2, l3, l4, l5, l6, l7, l8, l9, l10, l11, rfl, rfl, HF⟩
      ·
       obtain rfl : l2 = false := (AnyOrder.mem_ready hi).2.1
       obtain rfl : l1 = true := AnyOrder.dep (q := 0) hi rfl rfl rfl
       clear hi
       simp only [sel_true, selv_true] at hK ⊢
       refine AnyOrder.wpOp_go rfl (by rfl) ?_
       go_wp2_with fail
       exact ⟨l0, true, true, l3, l4, l5, l6, l7, l8, l9, l10, l11, rfl, rfl, HF⟩
      ·
       obtain rfl : l3 = false := (AnyOrder.mem_ready hi).2.1
       obtain rfl : l0 = true := AnyOrder.dep (q := 0) hi rfl rfl rfl
       obtain rfl : l2 = true := AnyOrder.dep (q := 1) hi rfl rfl rfl
       clear hi
       simp only [sel_true, selv_true] at hK ⊢
       have hdec : decide ((k : Int) < (n : Int)) = true := decide_eq_true (by omega)
       refine AnyOrder.wpOp_go rfl (by rfl) ?_
       go_wp2_with fail
       exact ⟨true, l1, true, true, l4, l5, l6, l7, l8, l9, l10, l11, rfl, rfl, HF⟩
      ·
       obtain rfl : l4 = false := (AnyOrder.mem_ready hi).2.1
       obtain rfl : l3 = true := AnyOrder.dep (q := 0) hi rfl rfl rfl
       clear hi
       simp only [sel_true, selv_true] at hK ⊢
       refine AnyOrder.wpOp_go rfl (by rfl) ?_
       go_wp2_with fail
       exact ⟨l0, l1, l2, true, true, l5, l6, l7, l8, l9, l10, l11, rfl, rfl, HF⟩
      ·
       obtain rfl : l5 = false := (AnyOrder.mem_ready hi).2.1
       obtain rfl : l4 = true := AnyOrder.dep (q := 0) hi rfl rfl rfl
       clear hi
       simp only [sel_true, selv_true] at hK ⊢
       refine AnyOrder.wpOp_go rfl (by rfl) ?_
       go_wp2_with fail
       exact ⟨l0, l1, l2, l3, true, true, l6, l7, l8, l9, l10, l11, rfl, rfl, HF⟩
      ·
       obtain rfl : l6 = false := (AnyOrder.mem_ready hi).2.1
       obtain rfl : l4 = true := AnyOrder.dep (q := 0) hi rfl rfl rfl
       clear hi
       simp only [sel_true, selv_true] at hK ⊢
       refine AnyOrder.wpOp_go rfl (by rfl) ?_
       go_wp2_with fail
       exact ⟨l0, l1, l2, l3, true, l5, true, l7, l8, l9, l10, l11, rfl, rfl, HF⟩
      ·
       obtain rfl : l7 = false := (AnyOrder.mem_ready hi).2.1
       obtain rfl : l5 = true := AnyOrder.dep (q := 0) hi rfl rfl rfl
       obtain rfl : l6 = true := AnyOrder.dep (q := 1) hi rfl rfl rfl
       obtain rfl : l4 = true := AnyOrder.dep (q := 2) hi rfl rfl rfl
       clear hi
       simp only [sel_true, selv_true] at hK ⊢
       have hkk := HKN.out.1
       have hkl2 := HKN.out.2
       refine AnyOrder.wpOp_go rfl (by rfl) ?_
       go_wp2_with fail
       exact ⟨l0, l1, l2, l3, true, true, true, true, l8, l9, l10, l11, rfl, rfl, HF⟩
      ·
       obtain rfl : l8 = false := (AnyOrder.mem_ready hi).2.1
       obtain rfl : l7 = true := AnyOrder.dep (q := 0) hi rfl rfl rfl
       obtain rfl : l4 = true := AnyOrder.dep (q := 1) hi rfl rfl rfl
       clear hi
       simp only [sel_true, selv_true] at hK ⊢
       obtain ⟨y0, y1⟩ := HY.out
       have y0 := pw_cell_below HF.out y0
       have y1 := pw_cell_below HF.out y1
       refine AnyOrder.wpOp_go rfl (by rfl) ?_
       go_wp2_with fail
       exact ⟨l0, l1, l2, l3, true, l5, l6, true, true, l9, l10, l11, rfl, rfl, HF⟩
      ·
       obtain rfl : l9 = false := (AnyOrder.mem_ready hi).2.1
       obtain rfl : l4 = true := AnyOrder.dep (q := 0) hi rfl rfl rfl
       clear hi
       simp only [sel_true, selv_true] at hK ⊢
       have hkb := blk_keep (blk_drew HKB.out) HF.out
       have q0 : V.cell? ⟨B, 0, none⟩ = _ := (blk_cell hkb 0).trans rfl
       have q1 : V.cell? ⟨B, 1, none⟩ = _ := (blk_cell hkb 1).trans rfl
       refine AnyOrder.wpOp_go rfl (by rfl) ?_
       go_wp2_with fail
       exact ⟨l0, l1, l2, l3, true, l5, l6, l7, l8, true, l10, l11, rfl, rfl, HF⟩
      ·
       obtain rfl : l10 = false := (AnyOrder.mem_ready hi).2.1
       obtain rfl : l8 = true := AnyOrder.dep (q := 0) hi rfl rfl rfl
       obtain rfl : l9 = true := AnyOrder.dep (q := 1) hi rfl rfl rfl
       obtain rfl : l4 = true := AnyOrder.dep (q := 2) hi rfl rfl rfl
       clear hi
       simp only [sel_true, selv_true] at hK ⊢
       refine AnyOrder.wpOp_go rfl (by rfl) ?_
       go_wp2_with fail
       refine (redpencilref04_Less.calls _ _ _ _ false V (by rw [less_is, Hb2.out])).mono ?_
       rintro e V' ⟨rfl, hb⟩
       exact hK _ _ ⟨l0, l1, l2, l3, true, l5, l6, l7, true, true, true, l11, rfl, rfl, ⟨below_more HF.out hb⟩⟩
      ·
       obtain rfl : l11 = false := (AnyOrder.mem_ready hi).2.1
       obtain rfl : l4 = true := AnyOrder.dep (q := 0) hi rfl rfl rfl
       obtain rfl : l10 = true := AnyOrder.dep (q := 1) hi rfl rfl rfl
       clear hi
       simp only [sel_true, selv_true] at hK ⊢
       refine AnyOrder.wpOp_go rfl (by rfl) ?_
       go_wp2_with fail
       exact ⟨l0, l1, l2, l3, true, l5, l6, l7, l8, l9, true, true, rfl, rfl, HF⟩
     case last =>
      rintro L ac V ⟨l0, l1, l2, l3, l4, l5, l6, l7, l8, l9, l10, l11, rfl, rfl, HF⟩ hr
      have hall := AnyOrder.all_listed rfl (by kernel_rfl) hr
      clear hr
      obtain rfl : l0 = true := hall 0 (by decide)
      obtain rfl : l1 = true := hall 1 (by decide)
      obtain rfl : l2 = true := hall 2 (by decide)
      obtain rfl : l3 = true := hall 3 (by decide)
      obtain rfl : l4 = true := hall 4 (by decide)
      obtain rfl : l5 = true := hall 5 (by decide)
      obtain rfl : l6 = true := hall 6 (by decide)
      obtain rfl : l7 = true := hall 7 (by decide)
      obtain rfl : l8 = true := hall 8 (by decide)
      obtain rfl : l9 = true := hall 9 (by decide)
      obtain rfl : l10 = true := hall 10 (by decide)
      obtain rfl : l11 = true := hall 11 (by decide)
      clear hall
      simp only [sel_true, selv_true]
      have HHF := Aside0.mk (below_more (below_drew1 HB2.out) HF.out)
      clear HF
      generalize V = V9 at *
      have HB9 := Aside0.mk (below_more HB1.out (below_drew1 HHF.out))
      have HC9 := Aside0.mk (Kd.C_below HC.out HB9.out)
      have HKB9 := Aside0.mk (blk_drew (blk_keep HK1.out HHF.out))
      have HKC : Aside0 (k ≤ n ∧ n ≤ 400000 ∧ n ≤ c0) := ⟨⟨hk, HN4.out, HNC.out⟩⟩
      obtain ⟨m3, Hm3⟩ : ∃ m3, Aside0 (n - k = m3) := ⟨_, ⟨rfl⟩⟩
      obtain ⟨q3, Hq3⟩ : ∃ q3, Aside0 (c0 - k = q3) := ⟨_, ⟨rfl⟩⟩
      obtain ⟨Ac, HAc⟩ : ∃ Ac, Aside0 ((if c0 = k then (some ad) else Option.map (·.add (k * 2)) (some ad)) = Ac) := ⟨_, ⟨rfl⟩⟩
      have HCD : Aside0 (Kd.C k24 V9.drew Ac m3 (s.drop k)) := ⟨by rw [← HAc.out, ← Hm3.out]; exact C_from HC9.out Hn.out HKC.out.1 HKC.out.2.2⟩
      have HCF : Aside0 (∀ W, (Instr.sliceAt 41 (.slice (some ad) n c0) (some (.int .i64 (k : Int))) none none).run Tryz.prog W = .ok (.slice Ac m3 q3) W) := ⟨fun W => by rw [← HAc.out, ← Hm3.out, ← Hq3.out]; exact cut_fromD HKC.out.1 W⟩
      go_wp2_with fail
      refine AnyOrder.wp_region (by kernel_rfl) (rw6Inv V9.drew (some ad) Ac n c0 B k m3 q3 d s _ _ _ _ _ _ _ _ _ _ _ _ _ _ _ _ _ _ _ _ _ _ _ _ _ _ _ _ _ _ _) ⟨false, false, false, false, false, false, false, false, false, false, false, false, 0, undef, undef, undef, rfl, rfl, ⟨⟨fun h => (by cases h), fun h => (by cases h), fun h => (by cases h), Below.refl _ _, fun h _ => (by cases h), fun h _ => (by cases h), fun h _ => (by cases h), fun h => (by cases h)⟩⟩⟩ ?step ?last
      case step =>
       rintro L ac V i ⟨l0, l1, l2, l3, l4, l5, l6, l7, l8, l9, l10, l11, g, v1, v2, v3, rfl, rfl, HF⟩ hi K hK
       have h1 : i = 0 ∨ i = 1 ∨ i = 2 ∨ i = 3 ∨ i = 4 ∨ i = 5 ∨ i = 6 ∨ i = 7 ∨ i = 8 ∨ i = 9 ∨ i = 10 ∨ i = 11 := by
        have h1 := (AnyOrder.mem_ready hi).1
        clear hi hK
        change i < 12 at h1
        omega
       rcases h1 with rfl | rfl | rfl | rfl | rfl | rfl | rfl | rfl | rfl | rfl | rfl | rfl
       ·
        obtain rfl : l0 = false := (AnyOrder.mem_ready hi).2.1
        clear hi
        refine AnyOrder.wpOp_go rfl (by rfl) ?_
        go_wp2_with fail
        exact ⟨true, l1, l2, l3, l4, l5, l6, l7, l8, l9, l10, l11, g, v1, v2, v3, rfl, rfl, HF⟩
       ·
        obtain rfl : l1 = false := (AnyOrder.mem_ready hi).2.1
        clear hi
        refine AnyOrder.wpOp_go rfl (by rfl) ?_
        go_wp2_with fail
        exact ⟨l0, true, l2, l3, l4, l5, l6, l7, l8, l9, l10, l11, g, v1, v2, v3, rfl, rfl, HF⟩
       ·
        obtain rfl : l2 = false := (AnyOrder.mem_ready hi).2.1
        obtain rfl : l0 = true := AnyOrder.dep (q := 0) hi rfl rfl rfl
        obtain rfl : l1 = true := AnyOrder.dep (q := 1) hi rfl rfl rfl
        clear hi
        simp only [sel_true, selv_true] at hK ⊢
        refine AnyOrder.wpOp_go rfl (by rfl) ?_
        refine op_slice 41 (.tmp 24) none (some (.tmp 25)) rfl rfl rfl rfl (cut_toD HKC.out.1 HKC.out.2.2 V) ?_
        exact hK _ _ ⟨true, true, true, l3, l4, l5, l6, l7, l8, l9, l10, l11, g, v1, v2, v3, rfl, rfl, HF⟩
       ·
        obtain rfl : l3 = false := (AnyOrder.mem_ready hi).2.1
        obtain rfl : l2 = true := AnyOrder.dep (q := 0) hi rfl rfl rfl
        clear hi
        simp only [sel_true, selv_true] at hK ⊢
        obtain ⟨rfl, rfl, rfl⟩ := HF.out.no (.inl rfl)
        refine AnyOrder.wpOp_go rfl (by rfl) ?_
        refine op_append_dotN V9.drew.heap.size rfl (.const (.slice none 0 0)) (.tmp 26) rfl (.slice none 0 0) [] (s.take k) (some ad) k c0 rfl rfl (Kd.R_nil _ _ _ _ _) (C_to (Kd.C_below HC9.out HF.out.below) Hn.out HKC.out.1) HF.out.below.size (by have h1 := HKC.out.1; have h2 := HKC.out.2.1; simp; omega) ?_
        intro u1 V1 hr1 hg1 _
        have hb1 := grown_nil hg1
        exact hK _ _ ⟨l0, l1, true, true, l4, l5, false, l7, l8, l9, false, false, g, u1, v2, v3, rfl, rfl, ⟨⟨fun h => (by cases h), fun h => (by cases h), fun h => (by cases h), below_more HF.out.below hb1, fun _ _ => hr1, fun h _ => blk_keep (HF.out.bx h rfl) hb1, fun h _ => (by cases h), fun h => (by cases h)⟩⟩⟩
       ·
        obtain rfl : l4 = false := (AnyOrder.mem_ready hi).2.1
        clear hi
        have hkb := blk_keep HKB9.out HF.out.below
        have q0 : V.cell? ⟨B, 0, none⟩ = _ := (blk_cell hkb 0).trans rfl
        have q1 : V.cell? ⟨B, 1, none⟩ = _ := (blk_cell hkb 1).trans rfl
        refine AnyOrder.wpOp_go rfl (by rfl) ?_
        go_wp2_with fail
        exact ⟨l0, l1, l2, l3, true, l5, l6, l7, l8, l9, l10, l11, g, v1, v2, v3, rfl, rfl, HF⟩
       ·
        obtain rfl : l5 = false := (AnyOrder.mem_ready hi).2.1
        obtain rfl : l4 = true := AnyOrder.dep (q := 0) hi rfl rfl rfl
        clear hi
        simp only [sel_true, selv_true] at hK ⊢
        obtain ⟨rfl, rfl, rfl⟩ := HF.out.no (.inr rfl)
        have hb1 := (Gr.alloc V (dotC d)).below
        refine AnyOrder.wpOp_go rfl (by rfl) ?_
        go_wp2_with fail
        exact ⟨l0, l1, l2, l3, true, true, false, l7, l8, l9, false, false, V.heap.size, v1, v2, v3, rfl, rfl, ⟨⟨fun h => (by cases h), fun h => (by cases h), fun h => (by cases h), below_more HF.out.below hb1, fun h _ => RD.below' (HF.out.r1 h rfl) hb1, fun _ _ => blk_new _ _, fun h _ => (by cases h), fun h => (by cases h)⟩⟩⟩
       ·
        obtain rfl : l6 = false := (AnyOrder.mem_ready hi).2.1
        obtain rfl : l3 = true := AnyOrder.dep (q := 0) hi rfl rfl rfl
        obtain rfl : l5 = true := AnyOrder.dep (q := 1) hi rfl rfl rfl
        clear hi
        simp only [sel_true, selv_true] at hK ⊢
        obtain rfl : l10 = false := by cases l10 with | false => rfl | true => cases HF.out.ord10 rfl
        obtain rfl : l11 = false := by cases l11 with | false => rfl | true => cases HF.out.ord11 rfl
        (try simp only [sel_false, selv_false] at hK ⊢)
        have hr1 := HF.out.r1 rfl rfl
        refine AnyOrder.wpOp_go rfl (by rfl) ?_
        refine op_append_dotN V9.drew.heap.size rfl (.tmp 27) (.tmp 29) rfl v1 (s.take k) [d] (some ⟨g, 0, none⟩) 1 1 rfl rfl hr1 (dotC_C (HF.out.bx rfl rfl)) HF.out.below.size (by have h1 := HKC.out.1; have h2 := HKC.out.2.1; rw [List.length_take]; omega) ?_
        intro u2 V2 hr2 hg2 _
        exact hK _ _ ⟨l0, l1, l2, true, l4, true, true, l7, l8, l9, false, false, g, v1, u2, v3, rfl, rfl, ⟨⟨fun _ => ⟨rfl, rfl⟩, fun h => (by cases h), fun h => (by cases h), grown_belowD HF.out.below hr1 hg2, fun _ h => (by cases h), fun _ h => (by cases h), fun _ _ => hr2, fun h => (by cases h)⟩⟩⟩
       ·
        obtain rfl : l7 = false := (AnyOrder.mem_ready hi).2.1
        clear hi
        refine AnyOrder.wpOp_go rfl (by rfl) ?_
        go_wp2_with fail
        exact ⟨l0, l1, l2, l3, l4, l5, l6, true, l8, l9, l10, l11, g, v1, v2, v3, rfl, rfl, HF⟩
       ·
        obtain rfl : l8 = false := (AnyOrder.mem_ready hi).2.1
        clear hi
        refine AnyOrder.wpOp_go rfl (by rfl) ?_
        go_wp2_with fail
        exact ⟨l0, l1, l2, l3, l4, l5, l6, l7, true, l9, l10, l11, g, v1, v2, v3, rfl, rfl, HF⟩
       ·
        obtain rfl : l9 = false := (AnyOrder.mem_ready hi).2.1
        obtain rfl : l7 = true := AnyOrder.dep (q := 0) hi rfl rfl rfl
        obtain rfl : l8 = true := AnyOrder.dep (q := 1) hi rfl rfl rfl
        clear hi
        simp only [sel_true, selv_true] at hK ⊢
        refine AnyOrder.wpOp_go rfl (by rfl) ?_
        refine op_slice 41 (.tmp 31) (some (.tmp 32)) none rfl rfl rfl rfl (HCF.out V) ?_
        exact hK _ _ ⟨l0, l1, l2, l3, l4, l5, l6, true, true, true, l10, l11, g, v1, v2, v3, rfl, rfl, HF⟩
       ·
        obtain rfl : l10 = false := (AnyOrder.mem_ready hi).2.1
        obtain rfl : l6 = true := AnyOrder.dep (q := 0) hi rfl rfl rfl
        obtain rfl : l9 = true := AnyOrder.dep (q := 1) hi rfl rfl rfl
        clear hi
        simp only [sel_true, selv_true] at hK ⊢
        obtain rfl : l11 = false := by cases l11 with | false => rfl | true => cases HF.out.ord11 rfl
        (try simp only [sel_false, selv_false] at hK ⊢)
        have hr2 := HF.out.r2 rfl rfl
        refine AnyOrder.wpOp_go rfl (by rfl) ?_
        refine op_append_dotN V9.drew.heap.size rfl (.tmp 30) (.tmp 33) rfl v2 (s.take k ++ [d]) (s.drop k) Ac m3 q3 rfl rfl hr2 (Kd.C_below HCD.out HF.out.below) HF.out.below.size (by have h1 := HKC.out.1; have h2 := HKC.out.2.1; have h3 := Hm3.out; rw [List.length_append, List.length_take, List.length_singleton]; omega) ?_
        intro u3 V3 hr3 hg3 _
        exact hK _ _ ⟨l0, l1, l2, l3, l4, l5, true, l7, l8, true, true, false, g, v1, v2, u3, rfl, rfl, ⟨⟨HF.out.ord6, fun _ => rfl, fun h => (by cases h), grown_belowD HF.out.below hr2 hg3, fun _ h => (by cases h), fun _ h => (by cases h), fun _ h => (by cases h), fun _ => by rw [HCUT.out]; exact hr3⟩⟩⟩
       ·
        obtain rfl : l11 = false := (AnyOrder.mem_ready hi).2.1
        obtain rfl : l10 = true := AnyOrder.dep (q := 0) hi rfl rfl rfl
        obtain rfl : l0 = true := AnyOrder.dep (q := 2) hi rfl rfl rfl
        obtain rfl : l1 = true := AnyOrder.dep (q := 3) hi rfl rfl rfl
        obtain rfl : l2 = true := AnyOrder.dep (q := 4) hi rfl rfl rfl
        obtain rfl : l3 = true := AnyOrder.dep (q := 5) hi rfl rfl rfl
        obtain rfl : l4 = true := AnyOrder.dep (q := 6) hi rfl rfl rfl
        obtain rfl : l5 = true := AnyOrder.dep (q := 7) hi rfl rfl rfl
        obtain rfl : l6 = true := AnyOrder.dep (q := 8) hi rfl rfl rfl
        obtain rfl : l7 = true := AnyOrder.dep (q := 9) hi rfl rfl rfl
        obtain rfl : l8 = true := AnyOrder.dep (q := 10) hi rfl rfl rfl
        obtain rfl : l9 = true := AnyOrder.dep (q := 11) hi rfl rfl rfl
        clear hi
        simp only [sel_true, selv_true] at hK ⊢
        refine AnyOrder.wpOp_go rfl (by rfl) ?_
        go_wp2_with fail
        exact ⟨true, true, true, true, true, true, true, true, true, true, true, true, g, v1, v2, v3, rfl, rfl, ⟨⟨HF.out.ord6, HF.out.ord10, fun _ => rfl, HF.out.below, HF.out.r1, HF.out.bx, HF.out.r2, HF.out.r3⟩⟩⟩
      case last =>
       rintro L ac V ⟨l0, l1, l2, l3, l4, l5, l6, l7, l8, l9, l10, l11, g, v1, v2, v3, rfl, rfl, HF⟩ hr
       have hall := AnyOrder.all_listed rfl (by kernel_rfl) hr
       clear hr
       obtain rfl : l0 = true := hall 0 (by decide)
       obtain rfl : l1 = true := hall 1 (by decide)
       obtain rfl : l2 = true := hall 2 (by decide)
       obtain rfl : l3 = true := hall 3 (by decide)
       obtain rfl : l4 = true := hall 4 (by decide)
       obtain rfl : l5 = true := hall 5 (by decide)
       obtain rfl : l6 = true := hall 6 (by decide)
       obtain rfl : l7 = true := hall 7 (by decide)
       obtain rfl : l8 = true := hall 8 (by decide)
       obtain rfl : l9 = true := hall 9 (by decide)
       obtain rfl : l10 = true := hall 10 (by decide)
       obtain rfl : l11 = true := hall 11 (by decide)
       clear hall
       simp only [sel_true, selv_true]
       have HR3 := Aside0.mk (HF.out.r3 rfl)
       have HB3 := Aside0.mk (below_more HB9.out HF.out.below)
       obtain ⟨A3, c3, rfl⟩ := RD.slice HR3.out
       obtain ⟨n3, hn3⟩ : ∃ n3, (withD s d).length = n3 := ⟨_, rfl⟩
       rw [hn3] at HR3 ⊢
       clear HF hn3
       go_wp2
       go_ret
       exact ⟨_, rfl, Kd.R_lower HR3.out (Nat.le_trans HBS.out HB9.out.size), HB3.out⟩
   ·
    obtain rfl : k = n := by omega
    have HCUT : Aside0 (withD s d = s.take k ++ [d] ++ s.drop k) := ⟨by unfold withD; rw [if_neg HND.out, cutD_is (k := k) (by rw [Hn.out]; exact hk) HPRE.out (fun z hz => by rw [List.getElem?_eq_none (by rw [Hn.out]; exact hk)] at hz; cases hz)]; simp⟩
    go_wp2
    refine AnyOrder.wp_region (by kernel_rfl) (rw4eInv wr.drew A0 k c0 B k d d false false _ _ _ _ _ _ _ _ _ _ _ _ _ _ _ _ _ _ _ _ _ _ _ _ _ _ _ _ _ _ _ _) ⟨false, false, false, false, false, false, false, false, false, false, false, false, rfl, rfl, ⟨Below.refl _ _⟩⟩ ?step ?last
    case step =>
     rintro L ac V i ⟨l0, l1, l2, l3, l4, l5, l6, l7, l8, l9, l10, l11, rfl, rfl, HF⟩ hi K hK
     have h1 : i = 0 ∨ i = 1 ∨ i = 2 ∨ i = 3 ∨ i = 4 ∨ i = 5 ∨ i = 6 ∨ i = 7 ∨ i = 8 ∨ i = 9 ∨ i = 10 ∨ i = 11 := by
      have h1 := (AnyOrder.mem_ready hi).1
      clear hi hK
      change i < 12 at h1
      omega
     rcases h1 with rfl | rfl | rfl | rfl | rfl | rfl | rfl | rfl | rfl | rfl | rfl | rfl
     ·
      obtain rfl : l0 = false := (AnyOrder.mem_ready hi).2.1
      clear hi
      refine AnyOrder.wpOp_go rfl (by rfl) ?_
      go_wp2_with fail
      exact ⟨true, l1, l2, l3, l4, l5, l6, l7, l8, l9, l10, l11, rfl, rfl, HF⟩
     ·
      obtain rfl : l1 = false := (AnyOrder.mem_ready hi).2.1
      clear hi
      refine AnyOrder.wpOp_go rfl (by rfl) ?_
      go_wp2_with fail
      exact ⟨l0, true, l2, l3, l4, l5, l6, l7, l8, l9, l10, l11, rfl, rfl, HF⟩
     ·
      obtain rfl : l2 = false := (AnyOrder.mem_ready hi).2.1
      obtain rfl : l1 = true := AnyOrder.dep (q := 0) hi rfl rfl rfl
      clear hi
      simp only [sel_true, selv_true] at hK ⊢
      refine AnyOrder.wpOp_go rfl (by rfl) ?_
      go_wp2_with fail
      exact ⟨l0, true, true, l3, l4, l5, l6, l7, l8, l9, l10, l11, rfl, rfl, HF⟩
     ·
      obtain rfl : l3 = false := (AnyOrder.mem_ready hi).2.1
      obtain rfl : l0 = true := AnyOrder.dep (q := 0) hi rfl rfl rfl
      obtain rfl : l2 = true := AnyOrder.dep (q := 1) hi rfl rfl rfl
      clear hi
      simp only [sel_true, selv_true] at hK ⊢
      have hdec : decide ((k : Int) < (k : Int)) = false := decide_eq_false (by omega)
      refine AnyOrder.wpOp_go rfl (by rfl) ?_
      go_wp2_with fail
      exact ⟨true, l1, true, true, l4, l5, l6, l7, l8, l9, l10, l11, rfl, rfl, HF⟩
     ·
      obtain rfl : l4 = false := (AnyOrder.mem_ready hi).2.1
      obtain rfl : l3 = true := AnyOrder.dep (q := 0) hi rfl rfl rfl
      clear hi
      simp only [sel_true, selv_true] at hK ⊢
      refine AnyOrder.wpOp_go rfl (by rfl) ?_
      go_wp2_with fail
      exact ⟨l0, l1, l2, true, true, l5, l6, l7, l8, l9, l10, l11, rfl, rfl, HF⟩
     ·
      obtain rfl : l5 = false := (AnyOrder.mem_ready hi).2.1
      obtain rfl : l4 = true := AnyOrder.dep (q := 0) hi rfl rfl rfl
      clear hi
      simp only [sel_true, selv_true] at hK ⊢
      refine AnyOrder.wpOp_out rfl (by rfl) ?_
      exact hK _ _ ⟨l0, l1, l2, l3, true, true, l6, l7, l8, l9, l10, l11, rfl, rfl, HF⟩
     ·
      obtain rfl : l6 = false := (AnyOrder.mem_ready hi).2.1
      obtain rfl : l4 = true := AnyOrder.dep (q := 0) hi rfl rfl rfl
      clear hi
      simp only [sel_true, selv_true] at hK ⊢
      refine AnyOrder.wpOp_out rfl (by rfl) ?_
      exact hK _ _ ⟨l0, l1, l2, l3, true, l5, true, l7, l8, l9, l10, l11, rfl, rfl, HF⟩
     ·
      obtain rfl : l7 = false := (AnyOrder.mem_ready hi).2.1
      obtain rfl : l5 = true := AnyOrder.dep (q := 0) hi rfl rfl rfl
      obtain rfl : l6 = true := AnyOrder.dep (q := 1) hi rfl rfl rfl
      obtain rfl : l4 = true := AnyOrder.dep (q := 2) hi rfl rfl rfl
      clear hi
      simp only [sel_true, selv_true] at hK ⊢
      refine AnyOrder.wpOp_out rfl (by rfl) ?_
      exact hK _ _ ⟨l0, l1, l2, l3, true, true, true, true, l8, l9, l10, l11, rfl, rfl, HF⟩
     ·
      obtain rfl : l8 = false := (AnyOrder.mem_ready hi).2.1
      obtain rfl : l7 = true := AnyOrder.dep (q := 0) hi rfl rfl rfl
      obtain rfl : l4 = true := AnyOrder.dep (q := 1) hi rfl rfl rfl
      clear hi
      simp only [sel_true, selv_true] at hK ⊢
      refine AnyOrder.wpOp_out rfl (by rfl) ?_
      exact hK _ _ ⟨l0, l1, l2, l3, true, l5, l6, true, true, l9, l10, l11, rfl, rfl, HF⟩
     ·
      obtain rfl : l9 = false := (AnyOrder.mem_ready hi).2.1
      obtain rfl : l4 = true := AnyOrder.dep (q := 0) hi rfl rfl rfl
      clear hi
      simp only [sel_true, selv_true] at hK ⊢
      refine AnyOrder.wpOp_out rfl (by rfl) ?_
      exact hK _ _ ⟨l0, l1, l2, l3, true, l5, l6, l7, l8, true, l10, l11, rfl, rfl, HF⟩
     ·
      obtain rfl : l10 = false := (AnyOrder.mem_ready hi).2.1
      obtain rfl : l8 = true := AnyOrder.dep (q := 0) hi rfl rfl rfl
      obtain rfl : l9 = true := AnyOrder.dep (q := 1) hi rfl rfl rfl
      obtain rfl : l4 = true := AnyOrder.dep (q := 2) hi rfl rfl rfl
      clear hi
      simp only [sel_true, selv_true] at hK ⊢
      refine AnyOrder.wpOp_out rfl (by rfl) ?_
      exact hK _ _ ⟨l0, l1, l2, l3, true, l5, l6, l7, true, true, true, l11, rfl, rfl, HF⟩
     ·
      obtain rfl : l11 = false := (AnyOrder.mem_ready hi).2.1
      obtain rfl : l4 = true := AnyOrder.dep (q := 0) hi rfl rfl rfl
      obtain rfl : l10 = true := AnyOrder.dep (q := 1) hi rfl rfl rfl
      clear hi
      simp only [sel_true, selv_true] at hK ⊢
      refine AnyOrder.wpOp_go rfl (by rfl) ?_
      go_wp2_with fail
      exact ⟨l0, l1, l2, l3, true, l5, l6, l7, l8, l9, true, true, rfl, rfl, HF⟩
    case last =>
     rintro L ac V ⟨l0, l1, l2, l3, l4, l5, l6, l7, l8, l9, l10, l11, rfl, rfl, HF⟩ hr
     have hall := AnyOrder.all_listed rfl (by kernel_rfl) hr
     clear hr
     obtain rfl : l0 = true := hall 0 (by decide)
     obtain rfl : l1 = true := hall 1 (by decide)
     obtain rfl : l2 = true := hall 2 (by decide)
     obtain rfl : l3 = true := hall 3 (by decide)
     obtain rfl : l4 = true := hall 4 (by decide)
     obtain rfl : l5 = true := hall 5 (by decide)
     obtain rfl : l6 = true := hall 6 (by decide)
     obtain rfl : l7 = true := hall 7 (by decide)
     obtain rfl : l8 = true := hall 8 (by decide)
     obtain rfl : l9 = true := hall 9 (by decide)
     obtain rfl : l10 = true := hall 10 (by decide)
     obtain rfl : l11 = true := hall 11 (by decide)
     clear hall
     simp only [sel_true, selv_true]
     have HHF := Aside0.mk (below_more (below_drew1 HB2.out) HF.out)
     clear HF
     generalize V = V9 at *
     have HB9 := Aside0.mk (below_more HB1.out (below_drew1 HHF.out))
     have HC9 := Aside0.mk (Kd.C_below HC.out HB9.out)
     have HKB9 := Aside0.mk (blk_drew (blk_keep HK1.out HHF.out))
     have HKC : Aside0 (k ≤ k ∧ k ≤ 400000 ∧ k ≤ c0) := ⟨⟨hk, HN4.out, HNC.out⟩⟩
     obtain ⟨m3, Hm3⟩ : ∃ m3, Aside0 (k - k = m3) := ⟨_, ⟨rfl⟩⟩
     obtain ⟨q3, Hq3⟩ : ∃ q3, Aside0 (c0 - k = q3) := ⟨_, ⟨rfl⟩⟩
     obtain ⟨Ac, HAc⟩ : ∃ Ac, Aside0 ((if c0 = k then A0 else Option.map (·.add (k * 2)) A0) = Ac) := ⟨_, ⟨rfl⟩⟩
     have HCD : Aside0 (Kd.C k24 V9.drew Ac m3 (s.drop k)) := ⟨by rw [← HAc.out, ← Hm3.out]; exact C_from HC9.out Hn.out HKC.out.1 HKC.out.2.2⟩
     have HCF : Aside0 (∀ W, (Instr.sliceAt 41 (.slice A0 k c0) (some (.int .i64 (k : Int))) none none).run Tryz.prog W = .ok (.slice Ac m3 q3) W) := ⟨fun W => by rw [← HAc.out, ← Hm3.out, ← Hq3.out]; exact cut_fromD HKC.out.1 W⟩
     go_wp2_with fail
     refine AnyOrder.wp_region (by kernel_rfl) (rw6Inv V9.drew A0 Ac k c0 B k m3 q3 d s _ _ _ _ _ _ _ _ _ _ _ _ _ _ _ _ _ _ _ _ _ _ _ _ _ _ _ _ _ _ _) ⟨false, false, false, false, false, false, false, false, false, false, false, false, 0, undef, undef, undef, rfl, rfl, ⟨⟨fun h => (by cases h), fun h => (by cases h), fun h => (by cases h), Below.refl _ _, fun h _ => (by cases h), fun h _ => (by cases h), fun h _ => (by cases h), fun h => (by cases h)⟩⟩⟩ ?step ?last
     case step =>
      rintro L ac V i ⟨l0, l1, l2, l3, l4, l5, l6, l7, l8, l9, l10, l11, g, v1, v2, v3, rfl, rfl, HF⟩ hi K hK
      have h1 : i = 0 ∨ i = 1 ∨ i = 2 ∨ i = 3 ∨ i = 4 ∨ i = 5 ∨ i = 6 ∨ i = 7 ∨ i = 8 ∨ i = 9 ∨ i = 10 ∨ i = 11 := by
       have h1 := (AnyOrder.mem_ready hi).1
       clear hi hK
       change i < 12 at h1
       omega
      rcases h1 with rfl | rfl | rfl | rfl | rfl | rfl | rfl | rfl | rfl | rfl | rfl | rfl
      ·
       obtain rfl : l0 = false := (AnyOrder.mem_ready hi).2.1
       clear hi
       refine AnyOrder.wpOp_go rfl (by rfl) ?_
       go_wp2_with fail
       exact ⟨true, l1, l2, l3, l4, l5, l6, l7, l8, l9, l10, l11, g, v1, v2, v3, rfl, rfl, HF⟩
      ·
       obtain rfl : l1 = false := (AnyOrder.mem_ready hi).2.1
       clear hi
       refine AnyOrder.wpOp_go rfl (by rfl) ?_
       go_wp2_with fail
       exact ⟨l0, true, l2, l3, l4, l5, l6, l7, l8, l9, l10, l11, g, v1, v2, v3, rfl, rfl, HF⟩
      ·
       obtain rfl : l2 = false := (AnyOrder.mem_ready hi).2.1
       obtain rfl : l0 = true := AnyOrder.dep (q := 0) hi rfl rfl rfl
       obtain rfl : l1 = true := AnyOrder.dep (q := 1) hi rfl rfl rfl
       clear hi
       simp only [sel_true, selv_true] at hK ⊢
       refine AnyOrder.wpOp_go rfl (by rfl) ?_
       refine op_slice 41 (.tmp 24) none (some (.tmp 25)) rfl rfl rfl rfl (cut_toD HKC.out.1 HKC.out.2.2 V) ?_
       exact hK _ _ ⟨true, true, true, l3, l4, l5, l6, l7, l8, l9, l10, l11, g, v1, v2, v3, rfl, rfl, HF⟩
      ·
       obtain rfl : l3 = false := (AnyOrder.mem_ready hi).2.1
       obtain rfl : l2 = true := AnyOrder.dep (q := 0) hi rfl rfl rfl
       clear hi
       simp only [sel_true, selv_true] at hK ⊢
       obtain ⟨rfl, rfl, rfl⟩ := HF.out.no (.inl rfl)
       refine AnyOrder.wpOp_go rfl (by rfl) ?_
       refine op_append_dotN V9.drew.heap.size rfl (.const (.slice none 0 0)) (.tmp 26) rfl (.slice none 0 0) [] (s.take k) A0 k c0 rfl rfl (Kd.R_nil _ _ _ _ _) (C_to (Kd.C_below HC9.out HF.out.below) Hn.out HKC.out.1) HF.out.below.size (by have h1 := HKC.out.1; have h2 := HKC.out.2.1; simp; omega) ?_
       intro u1 V1 hr1 hg1 _
       have hb1 := grown_nil hg1
       exact hK _ _ ⟨l0, l1, true, true, l4, l5, false, l7, l8, l9, false, false, g, u1, v2, v3, rfl, rfl, ⟨⟨fun h => (by cases h), fun h => (by cases h), fun h => (by cases h), below_more HF.out.below hb1, fun _ _ => hr1, fun h _ => blk_keep (HF.out.bx h rfl) hb1, fun h _ => (by cases h), fun h => (by cases h)⟩⟩⟩
      ·
       obtain rfl : l4 = false := (AnyOrder.mem_ready hi).2.1
       clear hi
       have hkb := blk_keep HKB9.out HF.out.below
       have q0 : V.cell? ⟨B, 0, none⟩ = _ := (blk_cell hkb 0).trans rfl
       have q1 : V.cell? ⟨B, 1, none⟩ = _ := (blk_cell hkb 1).trans rfl
       refine AnyOrder.wpOp_go rfl (by rfl) ?_
       go_wp2_with fail
       exact ⟨l0, l1, l2, l3, true, l5, l6, l7, l8, l9, l10, l11, g, v1, v2, v3, rfl, rfl, HF⟩
      ·
       obtain rfl : l5 = false := (AnyOrder.mem_ready hi).2.1
       obtain rfl : l4 = true := AnyOrder.dep (q := 0) hi rfl rfl rfl
       clear hi
       simp only [sel_true, selv_true] at hK ⊢
       obtain ⟨rfl, rfl, rfl⟩ := HF.out.no (.inr rfl)
       have hb1 := (Gr.alloc V (dotC d)).below
       refine AnyOrder.wpOp_go rfl (by rfl) ?_
       go_wp2_with fail
       exact ⟨l0, l1, l2, l3, true, true, false, l7, l8, l9, false, false, V.heap.size, v1, v2, v3, rfl, rfl, ⟨⟨fun h => (by cases h), fun h => (by cases h), fun h => (by cases h), below_more HF.out.below hb1, fun h _ => RD.below' (HF.out.r1 h rfl) hb1, fun _ _ => blk_new _ _, fun h _ => (by cases h), fun h => (by cases h)⟩⟩⟩
      ·
       obtain rfl : l6 = false := (AnyOrder.mem_ready hi).2.1
       obtain rfl : l3 = true := AnyOrder.dep (q := 0) hi rfl rfl rfl
       obtain rfl : l5 = true := AnyOrder.dep (q := 1) hi rfl rfl rfl
       clear hi
       simp only [sel_true, selv_true] at hK ⊢
       obtain rfl : l10 = false := by cases l10 with | false => rfl | true => cases HF.out.ord10 rfl
       obtain rfl : l11 = false := by cases l11 with | false => rfl | true => cases HF.out.ord11 rfl
       (try simp only [sel_false, selv_false] at hK ⊢)
       have hr1 := HF.out.r1 rfl rfl
       refine AnyOrder.wpOp_go rfl (by rfl) ?_
       refine op_append_dotN V9.drew.heap.size rfl (.tmp 27) (.tmp 29) rfl v1 (s.take k) [d] (some ⟨g, 0, none⟩) 1 1 rfl rfl hr1 (dotC_C (HF.out.bx rfl rfl)) HF.out.below.size (by have h1 := HKC.out.1; have h2 := HKC.out.2.1; rw [List.length_take]; omega) ?_
       intro u2 V2 hr2 hg2 _
       exact hK _ _ ⟨l0, l1, l2, true, l4, true, true, l7, l8, l9, false, false, g, v1, u2, v3, rfl, rfl, ⟨⟨fun _ => ⟨rfl, rfl⟩, fun h => (by cases h), fun h => (by cases h), grown_belowD HF.out.below hr1 hg2, fun _ h => (by cases h), fun _ h => (by cases h), fun _ _ => hr2, fun h => (by cases h)⟩⟩⟩
      ·
       obtain rfl : l7 = false := (AnyOrder.mem_ready hi).2.1
       clear hi
       refine AnyOrder.wpOp_go rfl (by rfl) ?_
       go_wp2_with fail
       exact ⟨l0, l1, l2, l3, l4, l5, l6, true, l8, l9, l10, l11, g, v1, v2, v3, rfl, rfl, HF⟩
      ·
       obtain rfl : l8 = false := (AnyOrder.mem_ready hi).2.1
       clear hi
       refine AnyOrder.wpOp_go rfl (by rfl) ?_
       go_wp2_with fail
       exact ⟨l0, l1, l2, l3, l4, l5, l6, l7, true, l9, l10, l11, g, v1, v2, v3, rfl, rfl, HF⟩
      ·
       obtain rfl : l9 = false := (AnyOrder.mem_ready hi).2.1
       obtain rfl : l7 = true := AnyOrder.dep (q := 0) hi rfl rfl rfl
       obtain rfl : l8 = true := AnyOrder.dep (q := 1) hi rfl rfl rfl
       clear hi
       simp only [sel_true, selv_true] at hK ⊢
       refine AnyOrder.wpOp_go rfl (by rfl) ?_
       refine op_slice 41 (.tmp 31) (some (.tmp 32)) none rfl rfl rfl rfl (HCF.out V) ?_
       exact hK _ _ ⟨l0, l1, l2, l3, l4, l5, l6, true, true, true, l10, l11, g, v1, v2, v3, rfl, rfl, HF⟩
      ·
       obtain rfl : l10 = false := (AnyOrder.mem_ready hi).2.1
       obtain rfl : l6 = true := AnyOrder.dep (q := 0) hi rfl rfl rfl
       obtain rfl : l9 = true := AnyOrder.dep (q := 1) hi rfl rfl rfl
       clear hi
       simp only [sel_true, selv_true] at hK ⊢
       obtain rfl : l11 = false := by cases l11 with | false => rfl | true => cases HF.out.ord11 rfl
       (try simp only [sel_false, selv_false] at hK ⊢)
       have hr2 := HF.out.r2 rfl rfl
       refine AnyOrder.wpOp_go rfl (by rfl) ?_
       refine op_append_dotN V9.drew.heap.size rfl (.tmp 30) (.tmp 33) rfl v2 (s.take k ++ [d]) (s.drop k) Ac m3 q3 rfl rfl hr2 (Kd.C_below HCD.out HF.out.below) HF.out.below.size (by have h1 := HKC.out.1; have h2 := HKC.out.2.1; have h3 := Hm3.out; rw [List.length_append, List.length_take, List.length_singleton]; omega) ?_
       intro u3 V3 hr3 hg3 _
       exact hK _ _ ⟨l0, l1, l2, l3, l4, l5, true, l7, l8, true, true, false, g, v1, v2, u3, rfl, rfl, ⟨⟨HF.out.ord6, fun _ => rfl, fun h => (by cases h), grown_belowD HF.out.below hr2 hg3, fun _ h => (by cases h), fun _ h => (by cases h), fun _ h => (by cases h), fun _ => by rw [HCUT.out]; exact hr3⟩⟩⟩
      ·
       obtain rfl : l11 = false := (AnyOrder.mem_ready hi).2.1
       obtain rfl : l10 = true := AnyOrder.dep (q := 0) hi rfl rfl rfl
       obtain rfl : l0 = true := AnyOrder.dep (q := 2) hi rfl rfl rfl
       obtain rfl : l1 = true := AnyOrder.dep (q := 3) hi rfl rfl rfl
       obtain rfl : l2 = true := AnyOrder.dep (q := 4) hi rfl rfl rfl
       obtain rfl : l3 = true := AnyOrder.dep (q := 5) hi rfl rfl rfl
       obtain rfl : l4 = true := AnyOrder.dep (q := 6) hi rfl rfl rfl
       obtain rfl : l5 = true := AnyOrder.dep (q := 7) hi rfl rfl rfl
       obtain rfl : l6 = true := AnyOrder.dep (q := 8) hi rfl rfl rfl
       obtain rfl : l7 = true := AnyOrder.dep (q := 9) hi rfl rfl rfl
       obtain rfl : l8 = true := AnyOrder.dep (q := 10) hi rfl rfl rfl
       obtain rfl : l9 = true := AnyOrder.dep (q := 11) hi rfl rfl rfl
       clear hi
       simp only [sel_true, selv_true] at hK ⊢
       refine AnyOrder.wpOp_go rfl (by rfl) ?_
       go_wp2_with fail
       exact ⟨true, true, true, true, true, true, true, true, true, true, true, true, g, v1, v2, v3, rfl, rfl, ⟨⟨HF.out.ord6, HF.out.ord10, fun _ => rfl, HF.out.below, HF.out.r1, HF.out.bx, HF.out.r2, HF.out.r3⟩⟩⟩
     case last =>
      rintro L ac V ⟨l0, l1, l2, l3, l4, l5, l6, l7, l8, l9, l10, l11, g, v1, v2, v3, rfl, rfl, HF⟩ hr
      have hall := AnyOrder.all_listed rfl (by kernel_rfl) hr
      clear hr
      obtain rfl : l0 = true := hall 0 (by decide)
      obtain rfl : l1 = true := hall 1 (by decide)
      obtain rfl : l2 = true := hall 2 (by decide)
      obtain rfl : l3 = true := hall 3 (by decide)
      obtain rfl : l4 = true := hall 4 (by decide)
      obtain rfl : l5 = true := hall 5 (by decide)
      obtain rfl : l6 = true := hall 6 (by decide)
      obtain rfl : l7 = true := hall 7 (by decide)
      obtain rfl : l8 = true := hall 8 (by decide)
      obtain rfl : l9 = true := hall 9 (by decide)
      obtain rfl : l10 = true := hall 10 (by decide)
      obtain rfl : l11 = true := hall 11 (by decide)
      clear hall
      simp only [sel_true, selv_true]
      have HR3 := Aside0.mk (HF.out.r3 rfl)
      have HB3 := Aside0.mk (below_more HB9.out HF.out.below)
      obtain ⟨A3, c3, rfl⟩ := RD.slice HR3.out
      obtain ⟨n3, hn3⟩ : ∃ n3, (withD s d).length = n3 := ⟨_, rfl⟩
      rw [hn3] at HR3 ⊢
      clear HF hn3
      go_wp2
      go_ret
      exact ⟨_, rfl, Kd.R_lower HR3.out (Nat.le_trans HBS.out HB9.out.size), HB3.out⟩
end Go.Proofs.YtjlpaagnajmogaaGreat.PWalk
end
section
namespace Go.Proofs.YtjlpaagnajmogaaGreat.PWalk
open Go.RowKit Go.Proofs.YtjlpaagnajmogaaGreatW.PrintWords Go.Proofs.YtjlpaagnajmogaaGreatW.PrintLast Go.Proofs.YtjlpaagnajmogaaGreatW.PrintMore
set_option linter.unusedVariables false
set_option linter.unusedSimpArgs false
open Go.Shelf
attribute [local go_sem] Oper.semAt_some
theorem foldW_len : ∀ (a s : List Dot), (a.foldl withD s).length ≤ s.length + a.length
 | [], s => by simp
 | d :: a, s => by
  rw [List.foldl_cons]
  have h1 := foldW_len a (withD s d)
  have h2 := withD_length_le s d
  rw [List.length_cons]
  omega
set_option maxHeartbeats 1000000 in
set_option maxRecDepth 100000 in
theorem union_call (Aa : Option Addr) (na ca : Nat) (a : List Dot) (Ab : Option Addr) (nb cb : Nat) (b : List Dot) (w : World) (hna : a.length = na) (hnb : b.length = nb) (hca : Kd.C k24 w Aa na a) (hcb : Kd.C k24 w Ab nb b) (hl : na ≤ 1000 ∧ nb ≤ 1000) :
  Calls Tryz.prog 53 #[.slice Aa na ca, .slice Ab nb cb] w fun e w' => ∃ v, e = .returned v ∧ RD w' w.heap.size v (unionD a b) ∧ Below w.heap.size w w' := by
 have HA := Aside0.mk hca
 have HB0 := Aside0.mk hcb
 have Hna := Aside0.mk hna
 have Hnb := Aside0.mk hnb
 have HL := Aside0.mk hl
 have hma := Kd.C_max hca
 have hmb := Kd.C_max hcb
 have hl1 := hl.1
 have hl2 := hl.2
 clear hca hcb hna hnb hl
 go_enter Tryz.func53, Tryz.ntmps53
 go_wp2
 go_loopw [5, 6] (fun v5 i wr => ∃ k : Nat, i = .int .i64 k ∧ k ≤ na ∧ Aside0 (RD wr w.heap.size v5 ((a.take k).foldl withD [])) ∧ Aside0 (Below w.heap.size w wr)) (fun _ i _ => na - (intOf i).toNat)
 case atStart => exact ⟨0, rfl, Nat.zero_le _, ⟨Kd.R_nil _ _ _ _ _⟩, ⟨Below.refl _ _⟩⟩
 case round =>
  obtain ⟨k, rfl, hk, HO, HW⟩ := hrel
  by_cases hlt : k < na
  ·
   obtain ⟨d, hd⟩ : ∃ d, Aside0 (a[k]? = some d) := ⟨_, ⟨List.getElem?_eq_getElem (by rw [Hna.out]; exact hlt)⟩⟩
   obtain ⟨ad, e, h0, h1⟩ := dot_at HA.out HW.out k d hd.out
   subst e
   obtain ⟨Ao, co, e⟩ := RD.slice HO.out
   subst e
   have HLO := Aside0.mk (show ((a.take k).foldl withD []).length ≤ 400000 by have := foldW_len (a.take k) []; rw [List.length_take, List.length_nil] at this; omega)
   have HCALL := Aside0.mk (refWith_call w.heap.size Ao _ co _ d wr HO.out HW.out.size HLO.out)
   go_wp2_with fail
   refine HCALL.out.mono ?_
   rintro e V ⟨v, rfl, hr, hb⟩
   have HB2 := Aside0.mk (below_more HW.out hb)
   have HR2 := Aside0.mk hr
   clear hr hb h0 h1 HCALL
   go_wp2
   go_roundw
   case rel => exact ⟨k + 1, by go_num, by omega, ⟨by rw [List.take_add_one, hd.out, List.foldl_append]; exact HR2.out⟩, HB2⟩
   case measure => simp [intOf]; omega
  ·
   obtain rfl : k = na := by omega
   have HO1 : Aside0 (RD wr w.heap.size u5 (a.foldl withD [])) := ⟨by have := HO.out; rwa [List.take_of_length_le (by rw [Hna.out]; exact Nat.le_refl _)] at this⟩
   obtain ⟨W0, HW0⟩ : ∃ W0, Aside0 (W0 = wr) := ⟨_, ⟨rfl⟩⟩
   go_wp2
   go_loopw [5, 7] (fun v5 i wr => ∃ k : Nat, i = .int .i64 k ∧ k ≤ nb ∧ Aside0 (RD wr w.heap.size v5 ((b.take k).foldl withD (a.foldl withD []))) ∧ Aside0 (Below w.heap.size w wr)) (fun _ i _ => nb - (intOf i).toNat)
   case atStart => exact ⟨0, rfl, Nat.zero_le _, HO1, HW⟩
   case round =>
    obtain ⟨j, rfl, hj, HOb, HWb⟩ := hrel
    by_cases hlt2 : j < nb
    ·
     obtain ⟨d, hd⟩ : ∃ d, Aside0 (b[j]? = some d) := ⟨_, ⟨List.getElem?_eq_getElem (by rw [Hnb.out]; exact hlt2)⟩⟩
     obtain ⟨ad, e, h0, h1⟩ := dot_at HB0.out HWb.out j d hd.out
     subst e
     obtain ⟨Ao, co, e⟩ := RD.slice HOb.out
     subst e
     have HLO := Aside0.mk (show ((b.take j).foldl withD (a.foldl withD [])).length ≤ 400000 by have h1 := foldW_len (b.take j) (a.foldl withD []); have h2 := foldW_len a []; rw [List.length_take] at h1; rw [List.length_nil] at h2; have h3 := Hna.out; omega)
     have HCALL := Aside0.mk (refWith_call w.heap.size Ao _ co _ d _ HOb.out HWb.out.size HLO.out)
     go_wp2_with fail
     refine HCALL.out.mono ?_
     rintro e V ⟨v, rfl, hr, hb⟩
     have HB2 := Aside0.mk (below_more HWb.out hb)
     have HR2 := Aside0.mk hr
     clear hr hb h0 h1 HCALL
     go_wp2
     go_roundw
     case rel => exact ⟨j + 1, by go_num, by omega, ⟨by rw [List.take_add_one, hd.out, List.foldl_append]; exact HR2.out⟩, HB2⟩
     case measure => simp [intOf]; omega
    ·
     obtain rfl : j = nb := by omega
     have HO2 := HOb.out
     rw [List.take_of_length_le (by rw [Hnb.out]; exact Nat.le_refl _)] at HO2
     have HO3 := Aside0.mk HO2
     clear HO2
     go_wp2
     go_ret
     exact ⟨_, rfl, HO3.out, HWb.out⟩
end Go.Proofs.YtjlpaagnajmogaaGreat.PWalk
end
section
namespace Go.Proofs.YtjlpaagnajmogaaGreat.PWalk
open Go.RowKit Go.Proofs.YtjlpaagnajmogaaGreatW.PrintWords Go.Proofs.YtjlpaagnajmogaaGreatW.PrintLast Go.Proofs.YtjlpaagnajmogaaGreatW.PrintMore
set_option linter.unusedVariables false
set_option linter.unusedSimpArgs false
open Go.Shelf
attribute [local go_sem] Oper.semAt_some
theorem namesH_from (l : List Node) (hl : l.length ≤ 1000000) : ∀ (q k i : Nat), i + q = l.length → q < k → redpencilref10_Dots.l0 k l false ((l.take i).map (·.f0)) (i : Int) = some (l.map (·.f0)) := by
 intro q
 induction q with
 | zero =>
  intro k i hi hk
  obtain ⟨k, rfl⟩ : ∃ m, k = m + 1 := ⟨k - 1, by omega⟩
  simp only [redpencilref10_Dots.l0]
  rw [if_neg (by omega), show i = l.length by omega, List.take_length]
 | succ q ih =>
  intro k i hi hk
  obtain ⟨k, rfl⟩ : ∃ m, k = m + 1 := ⟨k - 1, by omega⟩
  have hlt : i < l.length := by omega
  simp only [redpencilref10_Dots.l0]
  rw [if_pos (by omega), if_neg (by decide), if_pos (by omega), rdN hlt, wrap_succ hlt hl, if_pos (by rw [List.length_map, List.length_take]; omega)]
  have hs : (l.take i).map (·.f0) ++ [l[i].f0] = (l.take (i + 1)).map (·.f0) := by rw [List.take_succ_eq_append_getElem hlt, List.map_append]; rfl
  show redpencilref10_Dots.l0 k l false ((l.take i).map (·.f0) ++ [l[i].f0]) _ = _
  rw [hs]
  exact ih k (i + 1) (by omega) (by omega)
theorem namesH_is (l : List Node) (hl : l.length ≤ 1000000) (k : Nat) (hk : l.length < k) : redpencillaw11_names.f k l = some (l.map (·.f0)) := by
 unfold redpencillaw11_names.f redpencilref10_Dots.f
 have h := namesH_from l hl l.length k 0 (by omega) hk
 rw [List.take_zero] at h
 rw [show redpencilref10_Dots.l0 k l false [] 0 = _ from h]
 rfl
section
variable {ops : Array Oper} {rest : List Oper} {o : Oper} {a : Act} {Q : Exit → Act → World → Prop}
/-- The operation: a dot is stored into a box. -/
theorem wpList_boxDot (hgd : o.guard = none) (s x : Operand) (ho : o.op = .store 24 s x) (hd : o.dst = none) {w : World} {g : Nat} {u : Dot}
  (hg : w.heap[g]? = some (dotC u)) (y : Dot) (hs : a.eval s = .pointer (some ⟨g, 0, none⟩)) (hx : a.eval x = vDot y)
  (hk : ∀ w', w'.heap[g]? = some (dotC y) → w.grownBy w' (some g) → wpList Tryz.prog ops Q rest a w') : wpList Tryz.prog ops Q (o :: rest) a w := by
 obtain ⟨i0, hi0, hz0, hz1, hz2⟩ := info_parts infoD
 refine wpList_store_row hgd 24 s x ho g _ hs hx 24 _ hg (by rw [hi0]; show some i0.size = some 2; rw [hz1]) rfl (Array.all_eq_true_iff_forall_mem.2 (by intro v hv; simp at hv; rcases hv with rfl | rfl <;> rfl)) ?_
 rw [hd]
 exact hk _ (setRow_at hg _) (setRow_grown w g _)
end
/-- What lies ready in every round. -/
structure HoF (w : World) (Ao : Option Addr) (N : Nat) (O : List Node) (Ag : Option Addr) (ng : Nat) (G : List Dot) (V : World) : Prop where
 below : Below w.heap.size w V
 ord : Kd.C k35 V Ao N O
 gone : Kd.C k24 V Ag ng G
theorem HoF.more {w : World} {Ao : Option Addr} {N : Nat} {O : List Node} {Ag : Option Addr} {ng : Nat} {G : List Dot} {V V' : World} (h : HoF w Ao N O Ag ng G V) (hb : Below V.heap.size V V') : HoF w Ao N O Ag ng G V' := ⟨below_more h.below hb, Kd.C_below h.ord hb, Kd.C_below h.gone hb⟩
abbrev nodeC (x : Node) : Obj := .cells #[.int .i64 x.f0.f0, .int .i64 x.f0.f1, .int .i64 x.f1.f0, .int .i64 x.f1.f1, .int .i64 x.f2, .int .i32 x.f3] 35 (0, 0)
/-- What has come up where the parent is looked for. -/
structure HpF (W0 : World) (O : List Node) (i : Nat) (l13 : Bool) (An : Option Addr) (cn : Nat) (V : World) : Prop where
 below : Below W0.heap.size W0 V
 r13 : l13 = true → RD V W0.heap.size (.slice An i cn) ((O.take i).map (·.f0))
def horInv (W0 : World) (ad : Addr) (N co : Nat) (Ag : Option Addr) (ng cg i gB : Nat) (x : Node) (O : List Node) (z0 z1 z2 z4 z6 z9 z10 z11 z12 z13 z14 z15 z16 z17 z18 z19 z20 z21 z22 z23 z24 z25 z26 z27 z28 z29 z30 z31 z32 z33 z34 z35 z36 z37 z38 z39 z40 z41 z42 z43 z44 z45 z46 z47 z48 z49 z50 z51 z52 z53 z54 z55 z56 z57 z58 z59 z60 z61 z62 z63 z64 z65 z66 z67 z68 z69 z70 z71 z72 z73 z74 z75 z76 z77 z78 z79 z80 z81 z82 z83 z84 z85 z86 z87 z88 z89 z90 z91 z92 z93 z94 z95 z96 z97 z98 z99 z100 z101 z102 z103 z104 z105 z106 z107 z108 z109 z110 z111 z112 z113 z114 z115 z116 z117 z118 z119 z120 z121 z122 z123 z124 z125 z126 z127 z128 z129 z130 z131 z132 z133 z134 z135 z136 z137 z138 z139 z140 z141 z142 z143 z144 z145 z146 z147 z148 z149 z150 z151 z152 z153 z154 z155 z156 z157 z158 z159 z160 z161 z162 z163 z164 z165 z166 z167 z168 z169 z170 z171 z172 z173 z174 z175 z176 z177 z178 z179 z180 z181 z182 z183 z184 z185 z186 z187 z188 z189 z190 z191 z192 z193 z194 z195 z196 z197 z198 z199 z200 z201 z202 z203 z204 z205 : Value) (L : Array Bool) (ac : Act) (V : World) : Prop := ∃ (l0 l1 l2 l3 l4 l5 l6 l7 l8 l9 l10 l11 l12 l13 l14 l15 l16 l17 l18 l19 : Bool) (An : Option Addr) (cn : Nat), L = #[l0, l1, l2, l3, l4, l5, l6, l7, l8, l9, l10, l11, l12, l13, l14, l15, l16, l17, l18, l19] ∧ ac = { tmps := #[z0, z1, z2, .slice (some ad) N co, z4, .slice Ag ng cg, z6, .int .i64 (i : Int), .pointer (some ⟨gB, 0, none⟩), z9, z10, z11, z12, z13, z14, z15, z16, z17, z18, z19, z20, z21, z22, z23, z24, z25, z26, z27, z28, z29, z30, z31, z32, z33, z34, z35, z36, z37, z38, z39, z40, z41, z42, z43, z44, z45, z46, z47, z48, z49, z50, z51, z52, z53, z54, z55, z56, z57, z58, z59, z60, z61, z62, z63, z64, z65, z66, z67, z68, z69, selv l0 (.slice Ag ng cg) (z70), selv l1 (.pointer (some ⟨gB, 0, none⟩)) (z71), selv l2 (vDot x.f0) (z72), selv l3 (.bool false) (z73), selv l4 (.bool false) (z74), selv l5 (.pointer (some ⟨gB, 2, none⟩)) (z75), selv l6 (vDot x.f1) (z76), selv l7 (.bool true) (z77), selv l8 (.bool false) (z78), selv l9 (.bool false) (z79), selv l10 (undef) (z80), selv l11 (undef) (z81), selv l12 (undef) (z82), selv l13 (undef) (z83), selv l14 (undef) (z84), selv l15 (undef) (z85), selv l16 (undef) (z86), selv l17 (undef) (z87), selv l18 (.bool false) (z88), selv l19 (.bool false) (z89), z90, z91, z92, z93, z94, z95, z96, z97, z98, z99, z100, z101, z102, z103, z104, z105, z106, z107, z108, z109, z110, z111, z112, z113, z114, z115, z116, z117, z118, z119, z120, z121, z122, z123, z124, z125, z126, z127, z128, z129, z130, z131, z132, z133, z134, z135, z136, z137, z138, z139, z140, z141, z142, z143, z144, z145, z146, z147, z148, z149, z150, z151, z152, z153, z154, z155, z156, z157, z158, z159, z160, z161, z162, z163, z164, z165, z166, z167, z168, z169, z170, z171, z172, z173, z174, z175, z176, z177, z178, z179, z180, z181, z182, z183, z184, z185, z186, z187, z188, z189, z190, z191, z192, z193, z194, z195, z196, z197, z198, z199, z200, z201, z202, z203, z204, z205], defers := [] } ∧ Aside0 (Below W0.heap.size W0 V)
def hopInv (W0 : World) (ad : Addr) (N co : Nat) (Ag : Option Addr) (ng cg i gB : Nat) (x : Node) (O : List Node) (z0 z1 z2 z4 z6 z9 z10 z11 z12 z13 z14 z15 z16 z17 z18 z19 z20 z21 z22 z23 z24 z25 z26 z27 z28 z29 z30 z31 z32 z33 z34 z35 z36 z37 z38 z39 z40 z41 z42 z43 z44 z45 z46 z47 z48 z49 z50 z51 z52 z53 z54 z55 z56 z57 z58 z59 z60 z61 z62 z63 z64 z65 z66 z67 z68 z69 z70 z71 z72 z73 z74 z75 z76 z77 z78 z79 z80 z81 z82 z83 z84 z85 z86 z87 z88 z89 z90 z91 z92 z93 z94 z95 z96 z97 z98 z99 z100 z101 z102 z103 z104 z105 z106 z107 z108 z109 z110 z111 z112 z113 z114 z115 z116 z117 z118 z119 z120 z121 z122 z123 z124 z125 z126 z127 z128 z129 z130 z131 z132 z133 z134 z135 z136 z137 z138 z139 z140 z141 z142 z143 z144 z145 z146 z147 z148 z149 z150 z151 z152 z153 z154 z155 z156 z157 z158 z159 z160 z161 z162 z163 z164 z165 z166 z167 z168 z169 z170 z171 z172 z173 z174 z175 z176 z177 z178 z179 z180 z181 z182 z183 z184 z185 z186 z187 z188 z189 z190 z191 z192 z193 z194 z195 z196 z197 z198 z199 z200 z201 z202 z203 z204 z205 : Value) (L : Array Bool) (ac : Act) (V : World) : Prop := ∃ (l0 l1 l2 l3 l4 l5 l6 l7 l8 l9 l10 l11 l12 l13 l14 l15 l16 l17 l18 l19 : Bool) (An : Option Addr) (cn : Nat), L = #[l0, l1, l2, l3, l4, l5, l6, l7, l8, l9, l10, l11, l12, l13, l14, l15, l16, l17, l18, l19] ∧ ac = { tmps := #[z0, z1, z2, .slice (some ad) N co, z4, .slice Ag ng cg, z6, .int .i64 (i : Int), .pointer (some ⟨gB, 0, none⟩), z9, z10, z11, z12, z13, z14, z15, z16, z17, z18, z19, z20, z21, z22, z23, z24, z25, z26, z27, z28, z29, z30, z31, z32, z33, z34, z35, z36, z37, z38, z39, z40, z41, z42, z43, z44, z45, z46, z47, z48, z49, z50, z51, z52, z53, z54, z55, z56, z57, z58, z59, z60, z61, z62, z63, z64, z65, z66, z67, z68, z69, selv l0 (.slice Ag ng cg) (z70), selv l1 (.pointer (some ⟨gB, 0, none⟩)) (z71), selv l2 (vDot x.f0) (z72), selv l3 (.bool false) (z73), selv l4 (.bool false) (z74), selv l5 (.pointer (some ⟨gB, 2, none⟩)) (z75), selv l6 (vDot x.f1) (z76), selv l7 (.bool false) (z77), selv l8 (.bool true) (z78), selv l9 (.bool true) (z79), selv l10 (.slice (some ad) N co) (z80), selv l11 (.int .i64 (i : Int)) (z81), selv l12 (.slice (some ad) i co) (z82), selv l13 (.slice An i cn) (z83), selv l14 (.pointer (some ⟨gB, 2, none⟩)) (z84), selv l15 (vDot x.f1) (z85), selv l16 (.bool true) (z86), selv l17 (.bool false) (z87), selv l18 (.bool false) (z88), selv l19 (.bool false) (z89), z90, z91, z92, z93, z94, z95, z96, z97, z98, z99, z100, z101, z102, z103, z104, z105, z106, z107, z108, z109, z110, z111, z112, z113, z114, z115, z116, z117, z118, z119, z120, z121, z122, z123, z124, z125, z126, z127, z128, z129, z130, z131, z132, z133, z134, z135, z136, z137, z138, z139, z140, z141, z142, z143, z144, z145, z146, z147, z148, z149, z150, z151, z152, z153, z154, z155, z156, z157, z158, z159, z160, z161, z162, z163, z164, z165, z166, z167, z168, z169, z170, z171, z172, z173, z174, z175, z176, z177, z178, z179, z180, z181, z182, z183, z184, z185, z186, z187, z188, z189, z190, z191, z192, z193, z194, z195, z196, z197, z198, z199, z200, z201, z202, z203, z204, z205], defers := [] } ∧ Aside0 (HpF W0 O i l13 An cn V)
set_option maxHeartbeats 8000000 in
set_option maxRecDepth 100000 in
theorem WalkHolds.walk (A0 : Option Addr) (c0 : Nat) (ll : List Node) (w : World) (hr0 : Kd.C k35 w A0 ll.length ll) (hc0 : ll.length ≤ c0) (hi : ∀ x ∈ ll, runeIn x.f3) :
  Calls Tryz.prog 10 #[.slice A0 ll.length c0] w fun e w' => e = .returned (.bool true) ∧ Below w.heap.size w w' := by
 have HR := Aside0.mk hr0
 have HC := Aside0.mk hc0
 obtain ⟨n, Hn⟩ : ∃ n, Aside0 (ll.length = n) := ⟨_, ⟨rfl⟩⟩
 by_cases h40 : ll.length > 40
 ·
  have hb2 : decide ((40 : Int) < (n : Int)) = true := decide_eq_true (by have := Hn.out; omega)
  have hb3 : decide ((n : Int) > 40) = true := decide_eq_true (by have := Hn.out; omega)
  rw [Hn.out]
  clear hr0 hc0 hi h40
  go_enter Tryz.func10, Tryz.ntmps10
  go_wp2_with fail
  refine (known_walk _).mono ?_
  rintro e W3 ⟨rfl, hd⟩
  go_wp2
  go_ret
  exact ⟨rfl, hd⟩
 have HL : Aside0 (ll.length ≤ 40) := ⟨by omega⟩
 have hb2 : decide ((40 : Int) < (n : Int)) = false := decide_eq_false (by have := Hn.out; omega)
 have hb3 : decide ((n : Int) > 40) = false := decide_eq_false (by have := Hn.out; omega)
 obtain ⟨b, Hb⟩ : ∃ b, Aside0 (storeOk ll = b) := ⟨_, ⟨rfl⟩⟩
 have hval := store_Valid.calls A0 c0 ll b w hr0 hc0 (by unfold store_Valid.f; rw [if_pos (by omega), Hb.out])
 have hLn : ll.length = n := Hn.out
 rw [hLn] at hval ⊢
 have HVAL := Aside0.mk hval
 clear hr0 hc0 hi h40 hval hLn
 go_enter Tryz.func10, Tryz.ntmps10
 go_wp2_with fail
 refine HVAL.out.mono ?_
 rintro e V1 ⟨rfl, hb⟩
 have HB := Aside0.mk hb
 clear hb HVAL
 cases b with
 | false =>
  go_wp2_with fail
  refine (known_walk _).mono ?_
  rintro e W3 ⟨rfl, hd⟩
  go_wp2
  go_ret
  exact ⟨rfl, below_more HB.out hd⟩
 | true =>
  have HS := Aside0.mk (store_of Hb.out)
  obtain ⟨O, HO⟩ : ∃ O, Aside0 (nds (ordOf ll) = O) := ⟨_, ⟨rfl⟩⟩
  obtain ⟨G, HG⟩ : ∃ G, Aside0 (lostOf ll = G) := ⟨_, ⟨rfl⟩⟩
  obtain ⟨N, HN⟩ : ∃ N, Aside0 (O.length = N) := ⟨_, ⟨rfl⟩⟩
  obtain ⟨ng, Hng⟩ : ∃ ng, Aside0 (G.length = ng) := ⟨_, ⟨rfl⟩⟩
  have HSUM : Aside0 (N + ng = n ∧ n ≤ 40) := ⟨by
   have h1 := ord_lost_len HS.out
   rw [HO.out, HG.out, HN.out, Hng.out, Hn.out] at h1
   exact ⟨h1, by have := HL.out; have := Hn.out; omega⟩⟩
  go_wp2_with fail
  have hcall := walk_Order.calls A0 c0 ll O 0 V1 (Kd.C_below HR.out HB.out) HC.out (by rw [ord_is (by have := HL.out; omega), if_pos Hb.out, HO.out])
  rw [Hn.out] at hcall
  refine hcall.mono ?_
  clear hcall
  rintro e V2 ⟨vo, rfl, hro, hb⟩
  have HB := Aside0.mk (below_more HB.out hb)
  obtain ⟨Ao, co, rfl⟩ := RN.slice hro
  have HOC := Aside0.mk (Kd.R_reads' hro).2
  clear hb hro
  rw [HN.out] at HOC ⊢
  go_wp2_with fail
  have hcall := walk_Lost.calls A0 c0 ll G 0 V2 (Kd.C_below HR.out HB.out) HC.out (by unfold walk_Lost.f; rw [if_pos (by have := HL.out; omega), if_pos Hb.out, HG.out])
  rw [Hn.out] at hcall
  refine hcall.mono ?_
  clear hcall
  rintro e V3 ⟨vg, rfl, hrg, hb⟩
  obtain ⟨Ag, cg, rfl⟩ := RD.slice hrg
  have HGC := Aside0.mk (Kd.R_reads' hrg).2.1
  have HF := Aside0.mk (show HoF w Ao N O Ag ng G V3 from ⟨below_more HB.out hb, Kd.C_below HOC.out.2 hb, by have := (Kd.R_reads' hrg).2.2; rwa [Hng.out] at this⟩)
  have HCO := Aside0.mk HOC.out.1
  rw [Hng.out] at HGC ⊢
  clear hb hrg HOC HB
  have hN40 : N ≤ 40 := by have := HSUM.out; omega
  have hg40 : ng ≤ 40 := by have := HSUM.out; omega
  have hsum : (((N : Int) + (ng : Int)) != (n : Int)) = false := bne_eq_false_iff_eq.2 (by have := HSUM.out; omega)
  go_wp2_with fail
  have hcall := redpencillaw11_names.calls 1000 Ao co O (O.map (·.f0)) V3 (by rw [HN.out]; exact HF.out.ord) (by rw [HN.out]; exact HCO.out) (namesH_is O (by have := HN.out; omega) 1000 (by have := HN.out; omega))
  rw [HN.out] at hcall
  refine hcall.mono ?_
  clear hcall
  rintro e V4 ⟨v4, rfl, hr4, hb⟩
  have HF := Aside0.mk (HF.out.more hb)
  obtain ⟨A4, c4, rfl⟩ := RD.slice hr4
  obtain ⟨PO, HPO⟩ : ∃ PO, Aside0 (O.map (·.f0) = PO) := ⟨_, ⟨rfl⟩⟩
  rw [HPO.out] at hr4 ⊢
  have HPN : Aside0 (PO.length = N) := ⟨by rw [← HPO.out, List.length_map, HN.out]⟩
  have H4 := Aside0.mk (Kd.R_reads' hr4).2.2
  rw [HPN.out] at H4 ⊢
  clear hb hr4
  go_wp2_with fail
  refine (union_call A4 N c4 PO Ag ng cg G V4 HPN.out Hng.out H4.out HF.out.gone (by omega)).mono ?_
  rintro e V5 ⟨v5, rfl, hr5, hb⟩
  have HF := Aside0.mk (HF.out.more hb)
  have HU : Aside0 (unionD PO G = ll.map (·.f0)) := ⟨by rw [← HPO.out, ← HO.out, ← HG.out]; exact union_names HS.out⟩
  rw [HU.out] at hr5
  obtain ⟨A5, c5, rfl⟩ := RD.slice hr5
  obtain ⟨LD, HLD⟩ : ∃ LD, Aside0 (ll.map (·.f0) = LD) := ⟨_, ⟨rfl⟩⟩
  rw [HLD.out] at hr5 ⊢
  have HLN : Aside0 (LD.length = n) := ⟨by rw [← HLD.out, List.length_map, Hn.out]⟩
  have H5 := Aside0.mk (Kd.R_reads' hr5).2
  rw [HLN.out] at H5 ⊢
  clear hb hr5 H4
  go_wp2_with fail
  have hcall := redpencillaw11_names.calls 1000 A0 c0 ll LD V5 (Kd.C_below HR.out HF.out.below) HC.out (by rw [namesH_is ll (by have := HL.out; omega) 1000 (by have := HL.out; omega), HLD.out])
  rw [Hn.out] at hcall
  refine hcall.mono ?_
  clear hcall
  rintro e V6 ⟨v6, rfl, hr6, hb⟩
  have HF := Aside0.mk (HF.out.more hb)
  have H5 := Aside0.mk (And.intro H5.out.1 (Kd.C_below H5.out.2 hb))
  obtain ⟨A6, c6, rfl⟩ := RD.slice hr6
  have H6 := Aside0.mk (Kd.R_reads' hr6).2
  rw [HLN.out] at H6 ⊢
  clear hb hr6
  go_wp2_with fail
  have hcall := redpencilref04_Same.calls 1000 A5 c5 LD A6 c6 LD true V6 (by rw [HLN.out]; exact H5.out.2) (by rw [HLN.out]; exact H5.out.1) (by rw [HLN.out]; exact H6.out.2) (by rw [HLN.out]; exact H6.out.1) (by rw [refSameD_is _ _ (by have h1 := HLN.out; have h2 := HSUM.out; omega) 1000 (by have h1 := HLN.out; have h2 := HSUM.out; omega)]; simp)
  rw [HLN.out] at hcall
  refine hcall.mono ?_
  clear hcall
  rintro e V7 ⟨rfl, hdr⟩
  have HF := Aside0.mk (HF.out.more (Gr.drawn hdr).below)
  clear hdr H5 H6 hsum
  have hmo := Kd.C_max HF.out.ord
  go_wp2
  go_loopw [65] (fun v65 wr => ∃ i : Nat, v65 = .int .i64 i ∧ i ≤ N ∧ Aside0 (HoF w Ao N O Ag ng G wr)) (fun v65 _ => N - (intOf v65).toNat)
  case atStart => exact ⟨0, rfl, Nat.zero_le _, HF⟩
  case round =>
   obtain ⟨i, rfl, hi, HF⟩ := hrel
   by_cases hlt : i < N
   rotate_left
   ·
    obtain rfl : i = N := by omega
    go_wp2_with fail
    refine (known_walk _).mono ?_
    rintro e W3 ⟨rfl, hd⟩
    go_wp2
    go_ret
    exact ⟨rfl, below_more HF.out.below hd⟩
   ·
    obtain ⟨x, hx⟩ : ∃ x, Aside0 (O[i]? = some x) := ⟨_, ⟨List.getElem?_eq_getElem (by rw [HN.out]; exact hlt)⟩⟩
    obtain ⟨ad, e, h0, h1, h2, h3, h4, h5⟩ := node_at HF.out.ord (Below.refl _ wr) i x hx.out
    subst e
    obtain ⟨W0, hW0⟩ : ∃ W0, Aside0 (W0 = wr) := ⟨_, ⟨rfl⟩⟩
    have HBX := Aside0.mk (blk_new wr (nodeC x))
    have HF := Aside0.mk (HF.out.more (below_alloc (Below.refl _ wr) (nodeC x)))
    go_wp2
    have HgB : Aside0 (∃ g, wr.heap.size = g) := ⟨_, rfl⟩
    obtain ⟨gB, hgB⟩ : ∃ g, Aside0 (wr.heap.size = g) := ⟨_, ⟨rfl⟩⟩
    rw [hgB.out] at HBX
    obtain ⟨W1, HW1⟩ : ∃ W1, Aside0 (wr.alloc (nodeC x) = W1) := ⟨_, ⟨rfl⟩⟩
    rw [HW1.out] at HBX HF
    rw [show wr.alloc (Obj.cells #[Value.int IntKind.i64 x.f0.f0, Value.int IntKind.i64 x.f0.f1, Value.int IntKind.i64 x.f1.f0, Value.int IntKind.i64 x.f1.f1, Value.int IntKind.i64 x.f2, Value.int IntKind.i32 x.f3] 35) = W1 from HW1.out, show (Value.pointer (some { block := wr.heap.size, off := 0 })) = .pointer (some ⟨gB, 0, none⟩) by rw [hgB.out]]
    have HFW := HF
    have HOX : Aside0 ((nds (ordOf ll))[i]? = some x) := ⟨by rw [HO.out]; exact hx.out⟩
    have HXL : Aside0 (x ∈ ll ∧ ∃ V, Path ll x.f0 (x :: V)) := ⟨by
     obtain ⟨A, p, C, hsp, rfl, _⟩ := nds_split HOX.out
     have hp : p ∈ ordOf ll := by rw [hsp]; simp
     obtain ⟨V, hV, _⟩ := mem_ord HS.out hp
     exact ⟨ord_mem HS.out hp, V, hV⟩⟩
    have HOK : Aside0 (dotOk x.f0 = true) := ⟨by
     have := Hb.out
     unfold storeOk at this
     rw [Bool.and_eq_true, List.all_eq_true] at this
     have := this.1 x HXL.out.1
     unfold nodeOk at this
     exact (of_decide_eq_true this).1⟩
    obtain ⟨hpar, hbel⟩ := holds_at HS.out HOX.out
    rw [HO.out] at hpar hbel
    have HBEL := Aside0.mk hbel
    have HIN : Aside0 (i ≤ N ∧ N ≤ co) := ⟨⟨hi, HCO.out⟩⟩
    have HI40 : Aside0 (N ≤ 40) := ⟨hN40⟩
    have HTL : Aside0 ((O.take i).length = i) := ⟨by rw [List.length_take, HN.out]; omega⟩
    have HTM : Aside0 (((O.take i).map (·.f0)).length = i) := ⟨by rw [List.length_map]; exact HTL.out⟩
    have HNG : Aside0 (redpencilref04_Has.f 1000 G x.f0.f0 x.f0.f1 = some false) := ⟨by
     rw [refHas_is G (by rw [Hng.out]; omega) x.f0 1000 (by rw [Hng.out]; omega)]
     have := not_lost HS.out (List.mem_of_getElem? HOX.out)
     rw [HG.out] at this
     simp [this]⟩
    clear hbel h0 h1 h2 h3 h4 h5
    rcases hpar with hroot | hmem
    case' inl =>
      have HRT : Aside0 (redpencilref04_Root.f x.f1.f0 x.f1.f1 = some true) := ⟨by rw [refRoot_is]; rw [show (⟨x.f1.f0, x.f1.f1⟩ : Dot) = x.f1 from rfl, dotRoot_iff.2 hroot]⟩
      clear hroot
      refine AnyOrder.wp_region (by kernel_rfl) (horInv W1.drew ad N co Ag ng cg i gB x O _ _ _ _ _ _ _ _ _ _ _ _ _ _ _ _ _ _ _ _ _ _ _ _ _ _ _ _ _ _ _ _ _ _ _ _ _ _ _ _ _ _ _ _ _ _ _ _ _ _ _ _ _ _ _ _ _ _ _ _ _ _ _ _ _ _ _ _ _ _ _ _ _ _ _ _ _ _ _ _ _ _ _ _ _ _ _ _ _ _ _ _ _ _ _ _ _ _ _ _ _ _ _ _ _ _ _ _ _ _ _ _ _ _ _ _ _ _ _ _ _ _ _ _ _ _ _ _ _ _ _ _ _ _ _ _ _ _ _ _ _ _ _ _ _ _ _ _ _ _ _ _ _ _ _ _ _ _ _ _ _ _ _ _ _ _ _ _ _ _ _ _ _ _ _ _ _ _ _ _ _ _ _ _ _ _ _ _ _ _ _ _ _ _ _ _ _ _ _ _ _ _) ⟨false, false, false, false, false, false, false, false, false, false, false, false, false, false, false, false, false, false, false, false, none, 0, rfl, rfl, ⟨Below.refl _ _⟩⟩ ?step ?last
      case step =>
       rintro L ac V i ⟨l0, l1, l2, l3, l4, l5, l6, l7, l8, l9, l10, l11, l12, l13, l14, l15, l16, l17, l18, l19, An, cn, rfl, rfl, HF⟩ hi K hK
       have h1 : i = 0 ∨ i = 1 ∨ i = 2 ∨ i = 3 ∨ i = 4 ∨ i = 5 ∨ i = 6 ∨ i = 7 ∨ i = 8 ∨ i = 9 ∨ i = 10 ∨ i = 11 ∨ i = 12 ∨ i = 13 ∨ i = 14 ∨ i = 15 ∨ i = 16 ∨ i = 17 ∨ i = 18 ∨ i = 19 := by
        have h1 := (AnyOrder.mem_ready hi).1
        clear hi hK
        change i < 20 at h1
        omega
       rcases h1 with rfl | rfl | rfl | rfl | rfl | rfl | rfl | rfl | rfl | rfl | rfl | rfl | rfl | rfl | rfl | rfl | rfl | rfl | rfl | rfl
       ·
        obtain rfl : l0 = false := (AnyOrder.mem_ready hi).2.1
        clear hi
        refine AnyOrder.wpOp_go rfl (by rfl) ?_
        go_wp2_with fail
        exact ⟨true, l1, l2, l3, l4, l5, l6, l7, l8, l9, l10, l11, l12, l13, l14, l15, l16, l17, l18, l19, An, cn, rfl, rfl, HF⟩
       ·
        obtain rfl : l1 = false := (AnyOrder.mem_ready hi).2.1
        clear hi
        refine AnyOrder.wpOp_go rfl (by rfl) ?_
        go_wp2_with fail
        exact ⟨l0, true, l2, l3, l4, l5, l6, l7, l8, l9, l10, l11, l12, l13, l14, l15, l16, l17, l18, l19, An, cn, rfl, rfl, HF⟩
       ·
        obtain rfl : l2 = false := (AnyOrder.mem_ready hi).2.1
        obtain rfl : l1 = true := AnyOrder.dep (q := 0) hi rfl rfl rfl
        clear hi
        simp only [sel_true, selv_true] at hK ⊢
        have hx := blk_keep (blk_drew HBX.out) HF.out
        have q0 : V.cell? ⟨gB, 0, none⟩ = _ := (blk_cell hx 0).trans rfl
        have q1 : V.cell? ⟨gB, 1, none⟩ = _ := (blk_cell hx 1).trans rfl
        refine AnyOrder.wpOp_go rfl (by rfl) ?_
        go_wp2_with fail
        exact ⟨l0, true, true, l3, l4, l5, l6, l7, l8, l9, l10, l11, l12, l13, l14, l15, l16, l17, l18, l19, An, cn, rfl, rfl, HF⟩
       ·
        obtain rfl : l3 = false := (AnyOrder.mem_ready hi).2.1
        obtain rfl : l0 = true := AnyOrder.dep (q := 0) hi rfl rfl rfl
        obtain rfl : l2 = true := AnyOrder.dep (q := 1) hi rfl rfl rfl
        clear hi
        simp only [sel_true, selv_true] at hK ⊢
        have hh := redpencilref04_Has.calls 1000 Ag cg G x.f0.f0 x.f0.f1 false V (by rw [Hng.out]; exact Kd.C_below HFW.out.gone (below_more (below_drew1 (Below.refl _ W1)) HF.out)) (by rw [Hng.out]; exact HGC.out) HNG.out
        rw [Hng.out] at hh
        refine AnyOrder.wpOp_go rfl (by rfl) ?_
        go_wp2_with fail
        refine hh.mono ?_
        rintro e V' ⟨rfl, hb⟩
        exact hK _ _ ⟨true, l1, true, true, l4, l5, l6, l7, l8, l9, l10, l11, l12, l13, l14, l15, l16, l17, l18, l19, An, cn, rfl, rfl, ⟨below_more HF.out hb⟩⟩
       ·
        obtain rfl : l4 = false := (AnyOrder.mem_ready hi).2.1
        obtain rfl : l3 = true := AnyOrder.dep (q := 0) hi rfl rfl rfl
        clear hi
        simp only [sel_true, selv_true] at hK ⊢
        refine AnyOrder.wpOp_go rfl (by rfl) ?_
        go_wp2_with fail
        exact ⟨l0, l1, l2, true, true, l5, l6, l7, l8, l9, l10, l11, l12, l13, l14, l15, l16, l17, l18, l19, An, cn, rfl, rfl, HF⟩
       ·
        obtain rfl : l5 = false := (AnyOrder.mem_ready hi).2.1
        obtain rfl : l4 = true := AnyOrder.dep (q := 0) hi rfl rfl rfl
        clear hi
        simp only [sel_true, selv_true] at hK ⊢
        refine AnyOrder.wpOp_go rfl (by rfl) ?_
        go_wp2_with fail
        exact ⟨l0, l1, l2, l3, true, true, l6, l7, l8, l9, l10, l11, l12, l13, l14, l15, l16, l17, l18, l19, An, cn, rfl, rfl, HF⟩
       ·
        obtain rfl : l6 = false := (AnyOrder.mem_ready hi).2.1
        obtain rfl : l5 = true := AnyOrder.dep (q := 0) hi rfl rfl rfl
        obtain rfl : l4 = true := AnyOrder.dep (q := 1) hi rfl rfl rfl
        clear hi
        simp only [sel_true, selv_true] at hK ⊢
        have hx := blk_keep (blk_drew HBX.out) HF.out
        have q0 : V.cell? ⟨gB, 2, none⟩ = _ := (blk_cell hx 2).trans rfl
        have q1 : V.cell? ⟨gB, 3, none⟩ = _ := (blk_cell hx 3).trans rfl
        refine AnyOrder.wpOp_go rfl (by rfl) ?_
        go_wp2_with fail
        exact ⟨l0, l1, l2, l3, true, true, true, l7, l8, l9, l10, l11, l12, l13, l14, l15, l16, l17, l18, l19, An, cn, rfl, rfl, HF⟩
       ·
        obtain rfl : l7 = false := (AnyOrder.mem_ready hi).2.1
        obtain rfl : l6 = true := AnyOrder.dep (q := 0) hi rfl rfl rfl
        obtain rfl : l4 = true := AnyOrder.dep (q := 1) hi rfl rfl rfl
        clear hi
        simp only [sel_true, selv_true] at hK ⊢
        refine AnyOrder.wpOp_go rfl (by rfl) ?_
        go_wp2_with fail
        refine (redpencilref04_Root.calls x.f1.f0 x.f1.f1 true V HRT.out).mono ?_
        rintro e V' ⟨rfl, hb⟩
        exact hK _ _ ⟨l0, l1, l2, l3, true, l5, true, true, l8, l9, l10, l11, l12, l13, l14, l15, l16, l17, l18, l19, An, cn, rfl, rfl, ⟨below_more HF.out hb⟩⟩
       ·
        obtain rfl : l8 = false := (AnyOrder.mem_ready hi).2.1
        obtain rfl : l7 = true := AnyOrder.dep (q := 0) hi rfl rfl rfl
        obtain rfl : l4 = true := AnyOrder.dep (q := 1) hi rfl rfl rfl
        clear hi
        simp only [sel_true, selv_true] at hK ⊢
        refine AnyOrder.wpOp_go rfl (by rfl) ?_
        go_wp2_with fail
        exact ⟨l0, l1, l2, l3, true, l5, l6, true, true, l9, l10, l11, l12, l13, l14, l15, l16, l17, l18, l19, An, cn, rfl, rfl, HF⟩
       ·
        obtain rfl : l9 = false := (AnyOrder.mem_ready hi).2.1
        obtain rfl : l8 = true := AnyOrder.dep (q := 0) hi rfl rfl rfl
        obtain rfl : l7 = true := AnyOrder.dep (q := 1) hi rfl rfl rfl
        obtain rfl : l4 = true := AnyOrder.dep (q := 2) hi rfl rfl rfl
        clear hi
        simp only [sel_true, selv_true] at hK ⊢
        refine AnyOrder.wpOp_go rfl (by rfl) ?_
        go_wp2_with fail
        exact ⟨l0, l1, l2, l3, true, l5, l6, true, true, true, l10, l11, l12, l13, l14, l15, l16, l17, l18, l19, An, cn, rfl, rfl, HF⟩
       ·
        obtain rfl : l10 = false := (AnyOrder.mem_ready hi).2.1
        obtain rfl : l9 = true := AnyOrder.dep (q := 0) hi rfl rfl rfl
        clear hi
        simp only [sel_true, selv_true] at hK ⊢
        refine AnyOrder.wpOp_out rfl (by rfl) ?_
        exact hK _ _ ⟨l0, l1, l2, l3, l4, l5, l6, l7, l8, true, true, l11, l12, l13, l14, l15, l16, l17, l18, l19, An, cn, rfl, rfl, HF⟩
       ·
        obtain rfl : l11 = false := (AnyOrder.mem_ready hi).2.1
        obtain rfl : l9 = true := AnyOrder.dep (q := 0) hi rfl rfl rfl
        clear hi
        simp only [sel_true, selv_true] at hK ⊢
        refine AnyOrder.wpOp_out rfl (by rfl) ?_
        exact hK _ _ ⟨l0, l1, l2, l3, l4, l5, l6, l7, l8, true, l10, true, l12, l13, l14, l15, l16, l17, l18, l19, An, cn, rfl, rfl, HF⟩
       ·
        obtain rfl : l12 = false := (AnyOrder.mem_ready hi).2.1
        obtain rfl : l10 = true := AnyOrder.dep (q := 0) hi rfl rfl rfl
        obtain rfl : l11 = true := AnyOrder.dep (q := 1) hi rfl rfl rfl
        obtain rfl : l9 = true := AnyOrder.dep (q := 2) hi rfl rfl rfl
        clear hi
        simp only [sel_true, selv_true] at hK ⊢
        refine AnyOrder.wpOp_out rfl (by rfl) ?_
        exact hK _ _ ⟨l0, l1, l2, l3, l4, l5, l6, l7, l8, true, true, true, true, l13, l14, l15, l16, l17, l18, l19, An, cn, rfl, rfl, HF⟩
       ·
        obtain rfl : l13 = false := (AnyOrder.mem_ready hi).2.1
        obtain rfl : l12 = true := AnyOrder.dep (q := 0) hi rfl rfl rfl
        obtain rfl : l9 = true := AnyOrder.dep (q := 1) hi rfl rfl rfl
        clear hi
        simp only [sel_true, selv_true] at hK ⊢
        refine AnyOrder.wpOp_out rfl (by rfl) ?_
        exact hK _ _ ⟨l0, l1, l2, l3, l4, l5, l6, l7, l8, true, l10, l11, true, true, l14, l15, l16, l17, l18, l19, An, cn, rfl, rfl, HF⟩
       ·
        obtain rfl : l14 = false := (AnyOrder.mem_ready hi).2.1
        obtain rfl : l9 = true := AnyOrder.dep (q := 0) hi rfl rfl rfl
        clear hi
        simp only [sel_true, selv_true] at hK ⊢
        refine AnyOrder.wpOp_out rfl (by rfl) ?_
        exact hK _ _ ⟨l0, l1, l2, l3, l4, l5, l6, l7, l8, true, l10, l11, l12, l13, true, l15, l16, l17, l18, l19, An, cn, rfl, rfl, HF⟩
       ·
        obtain rfl : l15 = false := (AnyOrder.mem_ready hi).2.1
        obtain rfl : l14 = true := AnyOrder.dep (q := 0) hi rfl rfl rfl
        obtain rfl : l9 = true := AnyOrder.dep (q := 1) hi rfl rfl rfl
        clear hi
        simp only [sel_true, selv_true] at hK ⊢
        refine AnyOrder.wpOp_out rfl (by rfl) ?_
        exact hK _ _ ⟨l0, l1, l2, l3, l4, l5, l6, l7, l8, true, l10, l11, l12, l13, true, true, l16, l17, l18, l19, An, cn, rfl, rfl, HF⟩
       ·
        obtain rfl : l16 = false := (AnyOrder.mem_ready hi).2.1
        obtain rfl : l13 = true := AnyOrder.dep (q := 0) hi rfl rfl rfl
        obtain rfl : l15 = true := AnyOrder.dep (q := 1) hi rfl rfl rfl
        obtain rfl : l9 = true := AnyOrder.dep (q := 3) hi rfl rfl rfl
        clear hi
        simp only [sel_true, selv_true] at hK ⊢
        refine AnyOrder.wpOp_out rfl (by rfl) ?_
        exact hK _ _ ⟨l0, l1, l2, l3, l4, l5, l6, l7, l8, true, l10, l11, l12, true, l14, true, true, l17, l18, l19, An, cn, rfl, rfl, HF⟩
       ·
        obtain rfl : l17 = false := (AnyOrder.mem_ready hi).2.1
        obtain rfl : l16 = true := AnyOrder.dep (q := 0) hi rfl rfl rfl
        obtain rfl : l9 = true := AnyOrder.dep (q := 1) hi rfl rfl rfl
        clear hi
        simp only [sel_true, selv_true] at hK ⊢
        refine AnyOrder.wpOp_out rfl (by rfl) ?_
        exact hK _ _ ⟨l0, l1, l2, l3, l4, l5, l6, l7, l8, true, l10, l11, l12, l13, l14, l15, true, true, l18, l19, An, cn, rfl, rfl, HF⟩
       ·
        obtain rfl : l18 = false := (AnyOrder.mem_ready hi).2.1
        obtain rfl : l9 = true := AnyOrder.dep (q := 0) hi rfl rfl rfl
        obtain rfl : l17 = true := AnyOrder.dep (q := 1) hi rfl rfl rfl
        obtain rfl : l4 = true := AnyOrder.dep (q := 2) hi rfl rfl rfl
        clear hi
        simp only [sel_true, selv_true] at hK ⊢
        refine AnyOrder.wpOp_go rfl (by rfl) ?_
        go_wp2_with fail
        exact ⟨l0, l1, l2, l3, true, l5, l6, l7, l8, true, l10, l11, l12, l13, l14, l15, l16, true, true, l19, An, cn, rfl, rfl, HF⟩
       ·
        obtain rfl : l19 = false := (AnyOrder.mem_ready hi).2.1
        obtain rfl : l4 = true := AnyOrder.dep (q := 0) hi rfl rfl rfl
        obtain rfl : l18 = true := AnyOrder.dep (q := 1) hi rfl rfl rfl
        clear hi
        simp only [sel_true, selv_true] at hK ⊢
        refine AnyOrder.wpOp_go rfl (by rfl) ?_
        go_wp2_with fail
        exact ⟨l0, l1, l2, l3, true, l5, l6, l7, l8, l9, l10, l11, l12, l13, l14, l15, l16, l17, true, true, An, cn, rfl, rfl, HF⟩
      case' last =>
       rintro L ac V ⟨l0, l1, l2, l3, l4, l5, l6, l7, l8, l9, l10, l11, l12, l13, l14, l15, l16, l17, l18, l19, An, cn, rfl, rfl, HF⟩ hr
       have hall := AnyOrder.all_listed rfl (by kernel_rfl) hr
       clear hr
       obtain rfl : l0 = true := hall 0 (by decide)
       obtain rfl : l1 = true := hall 1 (by decide)
       obtain rfl : l2 = true := hall 2 (by decide)
       obtain rfl : l3 = true := hall 3 (by decide)
       obtain rfl : l4 = true := hall 4 (by decide)
       obtain rfl : l5 = true := hall 5 (by decide)
       obtain rfl : l6 = true := hall 6 (by decide)
       obtain rfl : l7 = true := hall 7 (by decide)
       obtain rfl : l8 = true := hall 8 (by decide)
       obtain rfl : l9 = true := hall 9 (by decide)
       obtain rfl : l10 = true := hall 10 (by decide)
       obtain rfl : l11 = true := hall 11 (by decide)
       obtain rfl : l12 = true := hall 12 (by decide)
       obtain rfl : l13 = true := hall 13 (by decide)
       obtain rfl : l14 = true := hall 14 (by decide)
       obtain rfl : l15 = true := hall 15 (by decide)
       obtain rfl : l16 = true := hall 16 (by decide)
       obtain rfl : l17 = true := hall 17 (by decide)
       obtain rfl : l18 = true := hall 18 (by decide)
       obtain rfl : l19 = true := hall 19 (by decide)
       clear hall
       simp only [sel_true, selv_true]
       have HFX := Aside0.mk (HFW.out.more (below_more (below_drew1 (Below.refl _ W1)) HF.out))
       have HBX2 := Aside0.mk (blk_keep (blk_drew HBX.out) HF.out)
       clear HF HBX HRT
    case' inr =>
      by_cases hroot : x.f1 = ⟨0, 0⟩
      case' pos =>
       exfalso
       rw [List.mem_map] at hmem
       obtain ⟨y, hy, e⟩ := hmem
       have hyl : y ∈ ll := by
        have h1 := List.mem_of_mem_take hy
        rw [← HO.out] at h1
        unfold nds at h1
        rw [List.mem_map] at h1
        obtain ⟨p, hp, rfl⟩ := h1
        exact ord_mem HS.out hp
       exact HS.out.not_root hyl (e.trans hroot)
      have HRT : Aside0 (redpencilref04_Root.f x.f1.f0 x.f1.f1 = some false) := ⟨by rw [refRoot_is]; rw [show (⟨x.f1.f0, x.f1.f1⟩ : Dot) = x.f1 from rfl]; cases e : dotRoot x.f1 with | false => rfl | true => exact absurd (dotRoot_iff.1 e) hroot⟩
      have HPA : Aside0 (redpencilref04_Has.f 1000 ((O.take i).map (·.f0)) x.f1.f0 x.f1.f1 = some true) := ⟨by
       rw [refHas_is _ (by rw [HTM.out]; omega) x.f1 1000 (by rw [HTM.out]; omega)]
       simp only [hmem, decide_true]⟩
      clear hroot hmem
      refine AnyOrder.wp_region (by kernel_rfl) (hopInv W1.drew ad N co Ag ng cg i gB x O _ _ _ _ _ _ _ _ _ _ _ _ _ _ _ _ _ _ _ _ _ _ _ _ _ _ _ _ _ _ _ _ _ _ _ _ _ _ _ _ _ _ _ _ _ _ _ _ _ _ _ _ _ _ _ _ _ _ _ _ _ _ _ _ _ _ _ _ _ _ _ _ _ _ _ _ _ _ _ _ _ _ _ _ _ _ _ _ _ _ _ _ _ _ _ _ _ _ _ _ _ _ _ _ _ _ _ _ _ _ _ _ _ _ _ _ _ _ _ _ _ _ _ _ _ _ _ _ _ _ _ _ _ _ _ _ _ _ _ _ _ _ _ _ _ _ _ _ _ _ _ _ _ _ _ _ _ _ _ _ _ _ _ _ _ _ _ _ _ _ _ _ _ _ _ _ _ _ _ _ _ _ _ _ _ _ _ _ _ _ _ _ _ _ _ _ _ _ _ _ _ _) ⟨false, false, false, false, false, false, false, false, false, false, false, false, false, false, false, false, false, false, false, false, none, 0, rfl, rfl, ⟨⟨Below.refl _ _, fun h => (by cases h)⟩⟩⟩ ?step ?last
      case step =>
       rintro L ac V i ⟨l0, l1, l2, l3, l4, l5, l6, l7, l8, l9, l10, l11, l12, l13, l14, l15, l16, l17, l18, l19, An, cn, rfl, rfl, HF⟩ hi K hK
       have h1 : i = 0 ∨ i = 1 ∨ i = 2 ∨ i = 3 ∨ i = 4 ∨ i = 5 ∨ i = 6 ∨ i = 7 ∨ i = 8 ∨ i = 9 ∨ i = 10 ∨ i = 11 ∨ i = 12 ∨ i = 13 ∨ i = 14 ∨ i = 15 ∨ i = 16 ∨ i = 17 ∨ i = 18 ∨ i = 19 := by
        have h1 := (AnyOrder.mem_ready hi).1
        clear hi hK
        change i < 20 at h1
        omega
       rcases h1 with rfl | rfl | rfl | rfl | rfl | rfl | rfl | rfl | rfl | rfl | rfl | rfl | rfl | rfl | rfl | rfl | rfl | rfl | rfl | rfl
       ·
        obtain rfl : l0 = false := (AnyOrder.mem_ready hi).2.1
        clear hi
        refine AnyOrder.wpOp_go rfl (by rfl) ?_
        go_wp2_with fail
        exact ⟨true, l1, l2, l3, l4, l5, l6, l7, l8, l9, l10, l11, l12, l13, l14, l15, l16, l17, l18, l19, An, cn, rfl, rfl, HF⟩
       ·
        obtain rfl : l1 = false := (AnyOrder.mem_ready hi).2.1
        clear hi
        refine AnyOrder.wpOp_go rfl (by rfl) ?_
        go_wp2_with fail
        exact ⟨l0, true, l2, l3, l4, l5, l6, l7, l8, l9, l10, l11, l12, l13, l14, l15, l16, l17, l18, l19, An, cn, rfl, rfl, HF⟩
       ·
        obtain rfl : l2 = false := (AnyOrder.mem_ready hi).2.1
        obtain rfl : l1 = true := AnyOrder.dep (q := 0) hi rfl rfl rfl
        clear hi
        simp only [sel_true, selv_true] at hK ⊢
        have hx := blk_keep (blk_drew HBX.out) HF.out.below
        have q0 : V.cell? ⟨gB, 0, none⟩ = _ := (blk_cell hx 0).trans rfl
        have q1 : V.cell? ⟨gB, 1, none⟩ = _ := (blk_cell hx 1).trans rfl
        refine AnyOrder.wpOp_go rfl (by rfl) ?_
        go_wp2_with fail
        exact ⟨l0, true, true, l3, l4, l5, l6, l7, l8, l9, l10, l11, l12, l13, l14, l15, l16, l17, l18, l19, An, cn, rfl, rfl, HF⟩
       ·
        obtain rfl : l3 = false := (AnyOrder.mem_ready hi).2.1
        obtain rfl : l0 = true := AnyOrder.dep (q := 0) hi rfl rfl rfl
        obtain rfl : l2 = true := AnyOrder.dep (q := 1) hi rfl rfl rfl
        clear hi
        simp only [sel_true, selv_true] at hK ⊢
        have hh := redpencilref04_Has.calls 1000 Ag cg G x.f0.f0 x.f0.f1 false V (by rw [Hng.out]; exact Kd.C_below HFW.out.gone (below_more (below_drew1 (Below.refl _ W1)) HF.out.below)) (by rw [Hng.out]; exact HGC.out) HNG.out
        rw [Hng.out] at hh
        refine AnyOrder.wpOp_go rfl (by rfl) ?_
        go_wp2_with fail
        refine hh.mono ?_
        rintro e V' ⟨rfl, hb⟩
        exact hK _ _ ⟨true, l1, true, true, l4, l5, l6, l7, l8, l9, l10, l11, l12, l13, l14, l15, l16, l17, l18, l19, An, cn, rfl, rfl, ⟨⟨below_more HF.out.below hb, fun e => RD.below' (HF.out.r13 e) hb⟩⟩⟩
       ·
        obtain rfl : l4 = false := (AnyOrder.mem_ready hi).2.1
        obtain rfl : l3 = true := AnyOrder.dep (q := 0) hi rfl rfl rfl
        clear hi
        simp only [sel_true, selv_true] at hK ⊢
        refine AnyOrder.wpOp_go rfl (by rfl) ?_
        go_wp2_with fail
        exact ⟨l0, l1, l2, true, true, l5, l6, l7, l8, l9, l10, l11, l12, l13, l14, l15, l16, l17, l18, l19, An, cn, rfl, rfl, HF⟩
       ·
        obtain rfl : l5 = false := (AnyOrder.mem_ready hi).2.1
        obtain rfl : l4 = true := AnyOrder.dep (q := 0) hi rfl rfl rfl
        clear hi
        simp only [sel_true, selv_true] at hK ⊢
        refine AnyOrder.wpOp_go rfl (by rfl) ?_
        go_wp2_with fail
        exact ⟨l0, l1, l2, l3, true, true, l6, l7, l8, l9, l10, l11, l12, l13, l14, l15, l16, l17, l18, l19, An, cn, rfl, rfl, HF⟩
       ·
        obtain rfl : l6 = false := (AnyOrder.mem_ready hi).2.1
        obtain rfl : l5 = true := AnyOrder.dep (q := 0) hi rfl rfl rfl
        obtain rfl : l4 = true := AnyOrder.dep (q := 1) hi rfl rfl rfl
        clear hi
        simp only [sel_true, selv_true] at hK ⊢
        have hx := blk_keep (blk_drew HBX.out) HF.out.below
        have q0 : V.cell? ⟨gB, 2, none⟩ = _ := (blk_cell hx 2).trans rfl
        have q1 : V.cell? ⟨gB, 3, none⟩ = _ := (blk_cell hx 3).trans rfl
        refine AnyOrder.wpOp_go rfl (by rfl) ?_
        go_wp2_with fail
        exact ⟨l0, l1, l2, l3, true, true, true, l7, l8, l9, l10, l11, l12, l13, l14, l15, l16, l17, l18, l19, An, cn, rfl, rfl, HF⟩
       ·
        obtain rfl : l7 = false := (AnyOrder.mem_ready hi).2.1
        obtain rfl : l6 = true := AnyOrder.dep (q := 0) hi rfl rfl rfl
        obtain rfl : l4 = true := AnyOrder.dep (q := 1) hi rfl rfl rfl
        clear hi
        simp only [sel_true, selv_true] at hK ⊢
        refine AnyOrder.wpOp_go rfl (by rfl) ?_
        go_wp2_with fail
        refine (redpencilref04_Root.calls x.f1.f0 x.f1.f1 false V HRT.out).mono ?_
        rintro e V' ⟨rfl, hb⟩
        exact hK _ _ ⟨l0, l1, l2, l3, true, l5, true, true, l8, l9, l10, l11, l12, l13, l14, l15, l16, l17, l18, l19, An, cn, rfl, rfl, ⟨⟨below_more HF.out.below hb, fun e => RD.below' (HF.out.r13 e) hb⟩⟩⟩
       ·
        obtain rfl : l8 = false := (AnyOrder.mem_ready hi).2.1
        obtain rfl : l7 = true := AnyOrder.dep (q := 0) hi rfl rfl rfl
        obtain rfl : l4 = true := AnyOrder.dep (q := 1) hi rfl rfl rfl
        clear hi
        simp only [sel_true, selv_true] at hK ⊢
        refine AnyOrder.wpOp_go rfl (by rfl) ?_
        go_wp2_with fail
        exact ⟨l0, l1, l2, l3, true, l5, l6, true, true, l9, l10, l11, l12, l13, l14, l15, l16, l17, l18, l19, An, cn, rfl, rfl, HF⟩
       ·
        obtain rfl : l9 = false := (AnyOrder.mem_ready hi).2.1
        obtain rfl : l8 = true := AnyOrder.dep (q := 0) hi rfl rfl rfl
        obtain rfl : l7 = true := AnyOrder.dep (q := 1) hi rfl rfl rfl
        obtain rfl : l4 = true := AnyOrder.dep (q := 2) hi rfl rfl rfl
        clear hi
        simp only [sel_true, selv_true] at hK ⊢
        refine AnyOrder.wpOp_go rfl (by rfl) ?_
        go_wp2_with fail
        exact ⟨l0, l1, l2, l3, true, l5, l6, true, true, true, l10, l11, l12, l13, l14, l15, l16, l17, l18, l19, An, cn, rfl, rfl, HF⟩
       ·
        obtain rfl : l10 = false := (AnyOrder.mem_ready hi).2.1
        obtain rfl : l9 = true := AnyOrder.dep (q := 0) hi rfl rfl rfl
        clear hi
        simp only [sel_true, selv_true] at hK ⊢
        refine AnyOrder.wpOp_go rfl (by rfl) ?_
        go_wp2_with fail
        exact ⟨l0, l1, l2, l3, l4, l5, l6, l7, l8, true, true, l11, l12, l13, l14, l15, l16, l17, l18, l19, An, cn, rfl, rfl, HF⟩
       ·
        obtain rfl : l11 = false := (AnyOrder.mem_ready hi).2.1
        obtain rfl : l9 = true := AnyOrder.dep (q := 0) hi rfl rfl rfl
        clear hi
        simp only [sel_true, selv_true] at hK ⊢
        refine AnyOrder.wpOp_go rfl (by rfl) ?_
        go_wp2_with fail
        exact ⟨l0, l1, l2, l3, l4, l5, l6, l7, l8, true, l10, true, l12, l13, l14, l15, l16, l17, l18, l19, An, cn, rfl, rfl, HF⟩
       ·
        obtain rfl : l12 = false := (AnyOrder.mem_ready hi).2.1
        obtain rfl : l10 = true := AnyOrder.dep (q := 0) hi rfl rfl rfl
        obtain rfl : l11 = true := AnyOrder.dep (q := 1) hi rfl rfl rfl
        obtain rfl : l9 = true := AnyOrder.dep (q := 2) hi rfl rfl rfl
        clear hi
        simp only [sel_true, selv_true] at hK ⊢
        refine AnyOrder.wpOp_go rfl (by rfl) ?_
        refine op_slice 22 (.tmp 80) none (some (.tmp 81)) rfl rfl rfl rfl (cut_toN HIN.out.1 HIN.out.2 V) ?_
        exact hK _ _ ⟨l0, l1, l2, l3, l4, l5, l6, l7, l8, true, true, true, true, l13, l14, l15, l16, l17, l18, l19, An, cn, rfl, rfl, HF⟩
       ·
        obtain rfl : l13 = false := (AnyOrder.mem_ready hi).2.1
        obtain rfl : l12 = true := AnyOrder.dep (q := 0) hi rfl rfl rfl
        obtain rfl : l9 = true := AnyOrder.dep (q := 1) hi rfl rfl rfl
        clear hi
        simp only [sel_true, selv_true] at hK ⊢
        have hh := redpencillaw11_names.calls 1000 (some ad) co (O.take i) ((O.take i).map (·.f0)) V (by rw [HTL.out]; exact C_to (Kd.C_below HFW.out.ord (below_more (below_drew1 (Below.refl _ W1)) HF.out.below)) HN.out HIN.out.1) (by rw [HTL.out]; have := HIN.out; omega) (namesH_is _ (by rw [HTL.out]; have := HI40.out; omega) 1000 (by rw [HTL.out]; have := HI40.out; omega))
        rw [HTL.out] at hh
        refine AnyOrder.wpOp_go rfl (by rfl) ?_
        go_wp2_with fail
        refine hh.mono ?_
        rintro e V' ⟨u, rfl, hr, hb⟩
        obtain ⟨Au, cu, rfl⟩ := RD.slice hr
        rw [HTM.out] at hr ⊢
        exact hK _ _ ⟨l0, l1, l2, l3, l4, l5, l6, l7, l8, true, l10, l11, true, true, l14, l15, l16, l17, l18, l19, Au, cu, rfl, rfl, ⟨⟨below_more HF.out.below hb, fun _ => Kd.R_lower hr HF.out.below.size⟩⟩⟩
       ·
        obtain rfl : l14 = false := (AnyOrder.mem_ready hi).2.1
        obtain rfl : l9 = true := AnyOrder.dep (q := 0) hi rfl rfl rfl
        clear hi
        simp only [sel_true, selv_true] at hK ⊢
        refine AnyOrder.wpOp_go rfl (by rfl) ?_
        go_wp2_with fail
        exact ⟨l0, l1, l2, l3, l4, l5, l6, l7, l8, true, l10, l11, l12, l13, true, l15, l16, l17, l18, l19, An, cn, rfl, rfl, HF⟩
       ·
        obtain rfl : l15 = false := (AnyOrder.mem_ready hi).2.1
        obtain rfl : l14 = true := AnyOrder.dep (q := 0) hi rfl rfl rfl
        obtain rfl : l9 = true := AnyOrder.dep (q := 1) hi rfl rfl rfl
        clear hi
        simp only [sel_true, selv_true] at hK ⊢
        have hx := blk_keep (blk_drew HBX.out) HF.out.below
        have q0 : V.cell? ⟨gB, 2, none⟩ = _ := (blk_cell hx 2).trans rfl
        have q1 : V.cell? ⟨gB, 3, none⟩ = _ := (blk_cell hx 3).trans rfl
        refine AnyOrder.wpOp_go rfl (by rfl) ?_
        go_wp2_with fail
        exact ⟨l0, l1, l2, l3, l4, l5, l6, l7, l8, true, l10, l11, l12, l13, true, true, l16, l17, l18, l19, An, cn, rfl, rfl, HF⟩
       ·
        obtain rfl : l16 = false := (AnyOrder.mem_ready hi).2.1
        obtain rfl : l13 = true := AnyOrder.dep (q := 0) hi rfl rfl rfl
        obtain rfl : l15 = true := AnyOrder.dep (q := 1) hi rfl rfl rfl
        obtain rfl : l9 = true := AnyOrder.dep (q := 3) hi rfl rfl rfl
        clear hi
        simp only [sel_true, selv_true] at hK ⊢
        have hh := redpencilref04_Has.calls 1000 An cn ((O.take i).map (·.f0)) x.f1.f0 x.f1.f1 true V (by rw [HTM.out]; exact (RD.C (HF.out.r13 rfl)).2.2) (by rw [HTM.out]; exact (RD.C (HF.out.r13 rfl)).2.1) HPA.out
        rw [HTM.out] at hh
        refine AnyOrder.wpOp_go rfl (by rfl) ?_
        go_wp2_with fail
        refine hh.mono ?_
        rintro e V' ⟨rfl, hb⟩
        exact hK _ _ ⟨l0, l1, l2, l3, l4, l5, l6, l7, l8, true, l10, l11, l12, true, l14, true, true, l17, l18, l19, An, cn, rfl, rfl, ⟨⟨below_more HF.out.below hb, fun e => RD.below' (HF.out.r13 e) hb⟩⟩⟩
       ·
        obtain rfl : l17 = false := (AnyOrder.mem_ready hi).2.1
        obtain rfl : l16 = true := AnyOrder.dep (q := 0) hi rfl rfl rfl
        obtain rfl : l9 = true := AnyOrder.dep (q := 1) hi rfl rfl rfl
        clear hi
        simp only [sel_true, selv_true] at hK ⊢
        refine AnyOrder.wpOp_go rfl (by rfl) ?_
        go_wp2_with fail
        exact ⟨l0, l1, l2, l3, l4, l5, l6, l7, l8, true, l10, l11, l12, l13, l14, l15, true, true, l18, l19, An, cn, rfl, rfl, HF⟩
       ·
        obtain rfl : l18 = false := (AnyOrder.mem_ready hi).2.1
        obtain rfl : l9 = true := AnyOrder.dep (q := 0) hi rfl rfl rfl
        obtain rfl : l17 = true := AnyOrder.dep (q := 1) hi rfl rfl rfl
        obtain rfl : l4 = true := AnyOrder.dep (q := 2) hi rfl rfl rfl
        clear hi
        simp only [sel_true, selv_true] at hK ⊢
        refine AnyOrder.wpOp_go rfl (by rfl) ?_
        go_wp2_with fail
        exact ⟨l0, l1, l2, l3, true, l5, l6, l7, l8, true, l10, l11, l12, l13, l14, l15, l16, true, true, l19, An, cn, rfl, rfl, HF⟩
       ·
        obtain rfl : l19 = false := (AnyOrder.mem_ready hi).2.1
        obtain rfl : l4 = true := AnyOrder.dep (q := 0) hi rfl rfl rfl
        obtain rfl : l18 = true := AnyOrder.dep (q := 1) hi rfl rfl rfl
        clear hi
        simp only [sel_true, selv_true] at hK ⊢
        refine AnyOrder.wpOp_go rfl (by rfl) ?_
        go_wp2_with fail
        exact ⟨l0, l1, l2, l3, true, l5, l6, l7, l8, l9, l10, l11, l12, l13, l14, l15, l16, l17, true, true, An, cn, rfl, rfl, HF⟩
      case' last =>
       rintro L ac V ⟨l0, l1, l2, l3, l4, l5, l6, l7, l8, l9, l10, l11, l12, l13, l14, l15, l16, l17, l18, l19, An, cn, rfl, rfl, HF⟩ hr
       have hall := AnyOrder.all_listed rfl (by kernel_rfl) hr
       clear hr
       obtain rfl : l0 = true := hall 0 (by decide)
       obtain rfl : l1 = true := hall 1 (by decide)
       obtain rfl : l2 = true := hall 2 (by decide)
       obtain rfl : l3 = true := hall 3 (by decide)
       obtain rfl : l4 = true := hall 4 (by decide)
       obtain rfl : l5 = true := hall 5 (by decide)
       obtain rfl : l6 = true := hall 6 (by decide)
       obtain rfl : l7 = true := hall 7 (by decide)
       obtain rfl : l8 = true := hall 8 (by decide)
       obtain rfl : l9 = true := hall 9 (by decide)
       obtain rfl : l10 = true := hall 10 (by decide)
       obtain rfl : l11 = true := hall 11 (by decide)
       obtain rfl : l12 = true := hall 12 (by decide)
       obtain rfl : l13 = true := hall 13 (by decide)
       obtain rfl : l14 = true := hall 14 (by decide)
       obtain rfl : l15 = true := hall 15 (by decide)
       obtain rfl : l16 = true := hall 16 (by decide)
       obtain rfl : l17 = true := hall 17 (by decide)
       obtain rfl : l18 = true := hall 18 (by decide)
       obtain rfl : l19 = true := hall 19 (by decide)
       clear hall
       simp only [sel_true, selv_true]
       have HFX := Aside0.mk (HFW.out.more (below_more (below_drew1 (Below.refl _ W1)) HF.out.below))
       have HBX2 := Aside0.mk (blk_keep (blk_drew HBX.out) HF.out.below)
       clear HF HBX HRT HPA
    all_goals
     obtain ⟨y0, y1, y2, y3, y4, y5⟩ := box_cells HBX2.out
     go_wp2_with fail
     have hcall := walk_Children.calls A0 c0 ll x.f0.f0 x.f0.f1 (kids ll x.f0) 0 V (Kd.C_below HR.out HFX.out.below) HC.out (by unfold walk_Children.f; rw [if_pos (by have := HL.out; omega), if_pos ⟨Hb.out, .inl HOK.out⟩])
     rw [Hn.out] at hcall
     refine hcall.mono ?_
     clear hcall
     rintro e V8 ⟨v8, rfl, hr8, hb⟩
     have HFX := Aside0.mk (HFX.out.more hb)
     have HBX2 := Aside0.mk (blk_keep HBX2.out hb)
     obtain ⟨Ac, cc, rfl⟩ := RN.slice hr8
     have H8 := Aside0.mk hr8
     obtain ⟨KK, HKK⟩ : ∃ KK, Aside0 (kids ll x.f0 = KK) := ⟨_, ⟨rfl⟩⟩
     rw [HKK.out] at H8 ⊢
     obtain ⟨m, Hm⟩ : ∃ m, Aside0 (KK.length = m) := ⟨_, ⟨rfl⟩⟩
     rw [Hm.out] at H8 ⊢
     clear hb hr8 y0 y1 y2 y3 y4 y5
     by_cases hm0 : m = 0
     case' pos =>
      subst hm0
      go_wp2
      go_quiet (fail)
      have hbq : Below V8.heap.size V8 (V8.drewN nq) := by apply pw_below_drewN; exact Below.refl _ _
      have HFX := Aside0.mk (HFX.out.more hbq)
      have HBX2 := Aside0.mk (blk_keep HBX2.out hbq)
      clear hbq
      generalize V8.drewN nq = V9 at HFX HBX2 ⊢
     case' neg =>
      obtain ⟨k0, ks, hkk⟩ : ∃ k0 ks, KK = k0 :: ks := by
       cases KK with
       | nil => exact absurd Hm.out.symm hm0
       | cons a b => exact ⟨a, b, rfl⟩
      obtain ⟨hi1, hk1⟩ : i + 1 < N ∧ O[i + 1]? = some k0 := by
       obtain ⟨B, hB⟩ := HBEL.out
       obtain ⟨V', hV⟩ := HXL.out.2
       obtain ⟨B', hB'⟩ := belowL_first HS.out hV (HKK.out.trans hkk)
       have hd : O.drop (i + 1) = k0 :: (B' ++ B) := by rw [hB, hB']; rfl
       have h1 : O[i + 1]? = some k0 := by
        have := congrArg (fun z : List Node => z[0]?) hd
        simpa using this
       exact ⟨by have := (List.getElem?_eq_some_iff.1 h1).1; rw [HN.out] at this; exact this, h1⟩
      have HK1 := Aside0.mk hk1
      obtain ⟨ad1, e1, g0, g1, g2, g3, g4, g5⟩ := node_at HFX.out.ord (Below.refl _ V8) (i + 1) k0 hk1
      cases e1
      obtain ⟨gk, e2⟩ : ∃ g, Ac = some ⟨g, 0, none⟩ := by
       obtain ⟨g, cap, h1, _⟩ := Kd.R_form H8.out (by rw [Hm.out]; omega)
       cases h1
       exact ⟨g, rfl⟩
      subst e2
      obtain ⟨f0, f1, f2, f3, f4, f5⟩ := row_six H8.out (k := 0) (x := k0) (by rw [hkk]; rfl)
      simp only [Nat.zero_mul, Nat.zero_add] at f0 f1 f2 f3 f4 f5
      clear hkk hk1
      have hmp : decide ((m : Int) > 0) = true := decide_eq_true (by omega)
      have hgi : decide ((i : Int) + 1 ≥ (N : Int)) = false := decide_eq_false (by omega)
      have hgi2 : decide ((N : Int) ≤ (i : Int) + 1) = false := decide_eq_false (by omega)
      have hmp2 : decide ((0 : Int) < (m : Int)) = true := decide_eq_true (by omega)
      have hw1 : IntKind.i64.wrap ((i : Int) + 1) = (i : Int) + 1 := wrap_small _ (by omega) (by omega)
      have hgi4 : decide (IntKind.i64.wrap ((i : Int) + 1) ≥ (N : Int)) = false := by rw [hw1]; exact hgi
      have hgi5 : decide ((N : Int) ≤ IntKind.i64.wrap ((i : Int) + 1)) = false := by rw [hw1]; exact hgi2
      have hmp3 : decide (0 < m) = true := decide_eq_true (by omega)
      have hgi3 : decide (N ≤ i + 1) = false := decide_eq_false (by omega)
      have hi0 : (0 : Int) ≤ (i : Int) + 1 := by omega
      have hi2 : (i : Int) + 1 < (N : Int) := by omega
      have hm1 : (0 : Int) < (m : Int) := by omega
      have hm2 : 0 < m := by omega
      go_wp2
      go_quiet (fail)
      clear g0 g1 g2 g3 g4 g5 f0 f1 f2 f3 f4 f5 hw1 hgi hgi2 hgi3 hgi4 hgi5 hmp hmp2 hmp3 hi0 hi2 hm1 hm2 hi1 hm0
      have hbq : Below V8.heap.size V8 (V8.drewN nq) := by apply pw_below_drewN; exact Below.refl _ _
      have HFX := Aside0.mk (HFX.out.more hbq)
      have HBX2 := Aside0.mk (blk_keep HBX2.out hbq)
      clear hbq
      generalize V8.drewN nq = V9 at HFX HBX2 ⊢
     all_goals
      obtain ⟨y0, y1, y2, y3, y4, y5⟩ := box_cells HBX2.out
      obtain ⟨BL, HBLe⟩ : ∃ BL, Aside0 (belowL ll x.f0 = BL) := ⟨_, ⟨rfl⟩⟩
      obtain ⟨mb, Hmb⟩ : ∃ mb, Aside0 (BL.length = mb) := ⟨_, ⟨rfl⟩⟩
      obtain ⟨BD, HBD⟩ : ∃ BD, Aside0 (BL.map (·.f0) = BD) := ⟨_, ⟨rfl⟩⟩
      have HBDl : Aside0 (BD.length = mb) := ⟨by rw [← HBD.out, List.length_map, Hmb.out]⟩
      have HCUT : Aside0 (i + 1 + mb ≤ N ∧ (O.take (i + 1 + mb)).drop (i + 1) = BL) := ⟨by
       obtain ⟨B, hB⟩ := HBEL.out
       rw [HBLe.out] at hB
       have hle : (O.drop (i + 1)).length = N - (i + 1) := by rw [List.length_drop, HN.out]
       have hl2 := congrArg List.length hB
       rw [hle, List.length_append, Hmb.out] at hl2
       refine ⟨by omega, ?_⟩
       rw [List.drop_take, hB, show i + 1 + mb - (i + 1) = mb by omega, List.take_left' Hmb.out]⟩
      have HPS : Aside0 (∃ U, Path ll x.f0 U) := ⟨by obtain ⟨V', hV⟩ := HXL.out.2; exact ⟨_, hV⟩⟩
      go_wp2_with fail
      have hcall := walk_Below.calls A0 c0 ll x.f0.f0 x.f0.f1 BD 0 V9 (Kd.C_below HR.out HFX.out.below) HC.out (by
       unfold walk_Below.f
       obtain ⟨U, hU⟩ := HPS.out
       rw [if_pos (by have := HL.out; omega), if_pos ⟨Hb.out, .inl HOK.out⟩, if_pos (by show (pathOf ll x.f0).isSome = true; rw [pathOf_path HS.out hU]; rfl)]
       rw [← HBD.out, ← HBLe.out]
       unfold belowL nds
       rw [List.map_map]
       rfl)
      rw [Hn.out] at hcall
      refine hcall.mono ?_
      clear hcall
      rintro e V10 ⟨v10, rfl, hr10, hb⟩
      have HFX := Aside0.mk (HFX.out.more hb)
      have HBX2 := Aside0.mk (blk_keep HBX2.out hb)
      obtain ⟨Ab, cb, rfl⟩ := RD.slice hr10
      have HRB := Aside0.mk (Kd.R_reads' hr10).2
      rw [HBDl.out] at HRB ⊢
      clear hb hr10 y0 y1 y2 y3 y4 y5
      have hcb1 := HCUT.out.1
      have hcut := cut_mid (P := Tryz.prog) 22 35 .i64 .i64 Tryz.underlying22 (info_parts infoN).choose_spec.1 6 (info_parts infoN).choose_spec.2.2.1 (some ad) N co ((i : Int) + 1) ((i : Int) + 1 + (mb : Int)) (by omega) (by omega) (by omega) HCO.out
      have hry := Kd.C_mid (lo := ((i : Int) + 1).toNat) (hi := ((i : Int) + 1 + (mb : Int)).toNat) (c := co) (show Kd.C k35 V10 (some ad) O.length O by rw [HN.out]; exact HFX.out.ord) (by omega) (by rw [HN.out]; omega) (by rw [HN.out]; exact HCO.out)
      rw [show ((i : Int) + 1).toNat = i + 1 by omega, show ((i : Int) + 1 + (mb : Int)).toNat = i + 1 + mb by omega] at hcut hry
      rw [HCUT.out.2] at hry
      obtain ⟨Ay, HAy⟩ : ∃ Ay, Aside0 ((if co = i + 1 then (some ad) else ((some ad) : Option Addr).map (·.add ((i + 1) * 6))) = Ay) := ⟨_, ⟨rfl⟩⟩
      replace hry : Kd.C k35 V10 Ay BL.length BL := by rw [← HAy.out]; exact hry
      rw [HAy.out, show i + 1 + mb - (i + 1) = mb by omega] at hcut
      have HRY := Aside0.mk hry
      have hcy : BL.length ≤ co - (i + 1) := by rw [Hmb.out]; have := HCO.out; omega
      have HCY := Aside0.mk hcy
      have hgt : decide ((i : Int) + 1 + (mb : Int) > (N : Int)) = false := decide_eq_false (by omega)
      clear hry hcy
      go_wp2_with fail
      have hcall := redpencillaw11_names.calls 1000 Ay (co - (i + 1)) BL BD V10 HRY.out HCY.out (by rw [namesH_is BL (by rw [Hmb.out]; omega) 1000 (by rw [Hmb.out]; omega), HBD.out])
      rw [Hmb.out] at hcall
      refine hcall.mono ?_
      clear hcall
      rintro e V11 ⟨v11, rfl, hr11, hb⟩
      have HFX := Aside0.mk (HFX.out.more hb)
      have HBX2 := Aside0.mk (blk_keep HBX2.out hb)
      have HRB := Aside0.mk (And.intro HRB.out.1 (Kd.C_below HRB.out.2 hb))
      obtain ⟨An2, cn2, rfl⟩ := RD.slice hr11
      have H11 := Aside0.mk (Kd.R_reads' hr11).2
      rw [HBDl.out] at H11 ⊢
      clear hb hr11 HRY hcut hgt
      go_wp2_with fail
      have hcall := redpencilref04_Same.calls 1000 Ab cb BD An2 cn2 BD true V11 (by rw [HBDl.out]; exact HRB.out.2) (by rw [HBDl.out]; exact HRB.out.1) (by rw [HBDl.out]; exact H11.out.2) (by rw [HBDl.out]; exact H11.out.1) (by rw [refSameD_is _ _ (by rw [HBDl.out]; omega) 1000 (by rw [HBDl.out]; omega)]; simp)
      rw [HBDl.out] at hcall
      refine hcall.mono ?_
      clear hcall
      rintro e V12 ⟨rfl, hdr⟩
      have HFX := Aside0.mk (HFX.out.more (Gr.drawn hdr).below)
      have HBX2 := Aside0.mk (blk_keep HBX2.out (Gr.drawn hdr).below)
      clear hdr HRB H11
      obtain ⟨y0, y1, y2, y3, y4, y5⟩ := box_cells HBX2.out
      obtain ⟨U', HU'⟩ : ∃ U', Aside0 (Path ll x.f0 (x :: U')) := by obtain ⟨V', hV⟩ := HXL.out.2; exact ⟨V', ⟨hV⟩⟩
      obtain ⟨R, HRv⟩ : ∃ R, Aside0 ((x :: U').reverse = R) := ⟨_, ⟨rfl⟩⟩
      obtain ⟨q, Hq⟩ : ∃ q, Aside0 (U'.length = q) := ⟨_, ⟨rfl⟩⟩
      have HRl : Aside0 (R.length = q + 1 ∧ q < 40) := ⟨by
       have := HU'.out.le HS.out
       rw [List.length_cons, Hq.out] at this
       have h2 := HL.out
       refine ⟨?_, by omega⟩
       rw [← HRv.out, List.length_reverse, List.length_cons, Hq.out]⟩
      have HRQ : Aside0 (R[q]? = some x) := ⟨by rw [← HRv.out, List.reverse_cons, List.getElem?_append_right (by rw [List.length_reverse, Hq.out]; exact Nat.le_refl _), List.length_reverse, Hq.out, Nat.sub_self]; rfl⟩
      have HUP : Aside0 (∀ j y, R[j]? = some y → y ∈ ll ∧ y.f1 = upAt R j) := ⟨by rw [← HRv.out]; exact (path_up HU'.out).1⟩
      obtain ⟨PD, HPD⟩ : ∃ PD, Aside0 (R.map (·.f0) = PD) := ⟨_, ⟨rfl⟩⟩
      have HPDl : Aside0 (PD.length = q + 1) := ⟨by rw [← HPD.out, List.length_map]; exact HRl.out.1⟩
      go_wp2_with fail
      have hcall := walk_Path.calls A0 c0 ll x.f0.f0 x.f0.f1 PD 0 V12 (Kd.C_below HR.out HFX.out.below) HC.out (by
       unfold walk_Path.f
       rw [if_pos (by have := HL.out; omega), if_pos ⟨Hb.out, HOK.out⟩, show (⟨x.f0.f0, x.f0.f1⟩ : Dot) = x.f0 from rfl, pathOf_path HS.out HU'.out]
       show some (dotsR (x :: U'), (0 : Int)) = _
       rw [← HPD.out, ← HRv.out]
       unfold dotsR
       rw [List.map_reverse])
      rw [Hn.out] at hcall
      refine hcall.mono ?_
      clear hcall
      rintro e V13 ⟨v13, rfl, hr13, hb⟩
      have HFX := Aside0.mk (HFX.out.more hb)
      have HBX2 := Aside0.mk (blk_keep HBX2.out hb)
      obtain ⟨gp, cp, rfl⟩ : ∃ gp cp, v13 = .slice (some ⟨gp, 0, none⟩) (q + 1) cp := by
       obtain ⟨g, cap, h1, _⟩ := Kd.R_form hr13 (by rw [HPDl.out]; omega)
       rw [HPDl.out] at h1
       exact ⟨g, cap, h1⟩
      have HRP := Aside0.mk (show Kd.C k24 V13 (some ⟨gp, 0, none⟩) (q + 1) PD by have := (Kd.R_reads' hr13).2.2; rwa [HPDl.out] at this)
      clear hb hr13 y0 y1 y2 y3 y4 y5
      obtain ⟨y0, y1, y2, y3, y4, y5⟩ := box_cells HBX2.out
      obtain ⟨adp, e3, p0, p1⟩ := dot_at HRP.out (Below.refl _ V13) q x.f0 (by rw [← HPD.out, List.getElem?_map, HRQ.out]; rfl)
      cases e3
      rw [show (⟨gp, 0, none⟩ : Addr).add (q * 2) = ⟨gp, q * 2, none⟩ by rw [add_lit, Nat.zero_add]] at p0 p1
      have hq40 : q < 40 := HRl.out.2
      have hq0 : (((q : Int) + 1) == 0) = false := beq_eq_false_iff_ne.2 (by omega)
      have hq1 : (0 : Int) ≤ (q : Int) := by omega
      have hq2 : (q : Int) < (q : Int) + 1 := by omega
      have hqw : IntKind.i64.wrap (q : Int) = (q : Int) := wrap_small _ (by omega) (by omega)
      have hqw2 : IntKind.i64.wrap ((q : Int) + 1 - 1) = (q : Int) := by rw [show (q : Int) + 1 - 1 = (q : Int) by omega]; exact hqw
      go_wp2
      go_quiet (fail)
      have hbq : Below V13.heap.size V13 (V13.drewN nq) := by apply pw_below_drewN; exact Below.refl _ _
      have HFX := Aside0.mk (HFX.out.more hbq)
      have HRP := Aside0.mk (Kd.C_below HRP.out hbq)
      clear hbq p0 p1 y0 y1 y2 y3 y4 y5 HBX2 hq0 hq1 hq2 hqw hqw2
      generalize V13.drewN nq = V14 at HFX HRP ⊢
      obtain ⟨gU, HgU⟩ : ∃ g, Aside0 (V14.heap.size = g) := ⟨_, ⟨rfl⟩⟩
      have HUB := Aside0.mk (blk_new V14 (dotC ⟨0, 0⟩))
      have HB0 := Aside0.mk (below_alloc (Below.refl _ V14) (dotC ⟨0, 0⟩))
      rw [HgU.out] at HUB
      go_wp2
      rw [show (Value.pointer (some { block := V14.heap.size, off := 0 })) = .pointer (some ⟨gU, 0, none⟩) by rw [HgU.out]]
      go_loopw [184] (fun v184 wr => ∃ j : Nat, v184 = .int .i64 j ∧ j ≤ q + 1 ∧ Aside0 (Below V14.heap.size V14 wr) ∧ Aside0 (wr.heap[gU]? = some (dotC (upAt R j)))) (fun v184 _ => q + 1 - (intOf v184).toNat)
      case' atStart => exact ⟨0, rfl, Nat.zero_le _, HB0, HUB⟩
      case' round =>
       obtain ⟨j, rfl, hj, HW, HU⟩ := hrel
       by_cases hjl : j < q + 1
       case' neg =>
        obtain rfl : j = q + 1 := by omega
        have HFX := Aside0.mk (HFX.out.more HW.out)
        have hjb : decide (((q : Int) + 1) < ((q : Int) + 1)) = false := decide_eq_false (by omega)
        go_wp2
        go_roundw
        case rel => exact ⟨i + 1, by go_num, by omega, HFX⟩
        case measure => simp [intOf]; omega
       obtain ⟨y, Hy⟩ : ∃ y, Aside0 (R[j]? = some y) := ⟨_, ⟨List.getElem?_eq_getElem (by rw [HRl.out.1]; exact hjl)⟩⟩
       have HYU := Aside0.mk (HUP.out j y Hy.out)
       rw [← HYU.out.2] at HU
       obtain ⟨adp, e3, p0, p1⟩ := dot_at HRP.out HW.out j y.f0 (by rw [← HPD.out, List.getElem?_map, Hy.out]; rfl)
       cases e3
       rw [show (⟨gp, 0, none⟩ : Addr).add (j * 2) = ⟨gp, j * 2, none⟩ by rw [add_lit, Nat.zero_add]] at p0 p1
       have HX15 := Aside0.mk (blk_new wr (dotC y.f0))
       have HU15 := Aside0.mk (blk_keep HU.out (below_alloc (Below.refl _ wr) (dotC y.f0)))
       have HW15 := Aside0.mk (below_more HW.out (below_alloc (Below.refl _ wr) (dotC y.f0)))
       go_wp2_with fail
       have hcall := storeFind_call ll A0 n c0 y.f0 _ y 0 Hn.out (by have := HSUM.out; omega) (by rw [← Hn.out]; exact HC.out) (by have := Kd.C_below HR.out (below_more HFX.out.below HW15.out); rwa [Hn.out] at this) (by
        obtain ⟨k, hk⟩ := List.getElem?_of_mem HYU.out.1
        have hdk : dotOk y.f0 = true := by
         have := Hb.out
         unfold storeOk at this
         rw [Bool.and_eq_true, List.all_eq_true] at this
         have := this.1 y HYU.out.1
         unfold nodeOk at this
         exact (of_decide_eq_true this).1
        rw [if_pos ⟨Hb.out, hdk⟩, fndOf_in Hb.out hk]
        rfl) (by
        obtain ⟨k, hk⟩ := List.getElem?_of_mem HYU.out.1
        have hdk : dotOk y.f0 = true := by
         have := Hb.out
         unfold storeOk at this
         rw [Bool.and_eq_true, List.all_eq_true] at this
         have := this.1 y HYU.out.1
         unfold nodeOk at this
         exact (of_decide_eq_true this).1
        rw [if_pos ⟨Hb.out, hdk⟩, fndOf_in Hb.out hk]
        rfl)
       refine hcall.mono ?_
       clear hcall
       rintro e Va ⟨rfl, hb⟩
       have HX15 := Aside0.mk (blk_keep (blk_keep HX15.out hb) (below_alloc (Below.refl _ Va) (nodeC y)))
       have HU15 := Aside0.mk (blk_keep (blk_keep HU15.out hb) (below_alloc (Below.refl _ Va) (nodeC y)))
       have HN16 := Aside0.mk (blk_new Va (nodeC y))
       have HW15 := Aside0.mk (below_more (below_more HW15.out hb) (below_alloc (Below.refl _ Va) (nodeC y)))
       clear hb p0 p1
       have u0 : (Va.alloc (Obj.cells #[Value.int IntKind.i64 y.f0.f0, Value.int IntKind.i64 y.f0.f1, Value.int IntKind.i64 y.f1.f0, Value.int IntKind.i64 y.f1.f1, Value.int IntKind.i64 y.f2, Value.int IntKind.i32 y.f3] 35)).cell? ⟨gU, 0, none⟩ = some (.int .i64 y.f1.f0) := (blk_cell HU15.out 0).trans rfl
       have u1 : (Va.alloc (Obj.cells #[Value.int IntKind.i64 y.f0.f0, Value.int IntKind.i64 y.f0.f1, Value.int IntKind.i64 y.f1.f0, Value.int IntKind.i64 y.f1.f1, Value.int IntKind.i64 y.f2, Value.int IntKind.i32 y.f3] 35)).cell? ⟨gU, 1, none⟩ = some (.int .i64 y.f1.f1) := (blk_cell HU15.out 1).trans rfl
       have d0 : (Va.alloc (Obj.cells #[Value.int IntKind.i64 y.f0.f0, Value.int IntKind.i64 y.f0.f1, Value.int IntKind.i64 y.f1.f0, Value.int IntKind.i64 y.f1.f1, Value.int IntKind.i64 y.f2, Value.int IntKind.i32 y.f3] 35)).cell? ⟨wr.heap.size, 0, none⟩ = some (.int .i64 y.f0.f0) := (blk_cell HX15.out 0).trans rfl
       have d1 : (Va.alloc (Obj.cells #[Value.int IntKind.i64 y.f0.f0, Value.int IntKind.i64 y.f0.f1, Value.int IntKind.i64 y.f1.f0, Value.int IntKind.i64 y.f1.f1, Value.int IntKind.i64 y.f2, Value.int IntKind.i32 y.f3] 35)).cell? ⟨wr.heap.size, 1, none⟩ = some (.int .i64 y.f0.f1) := (blk_cell HX15.out 1).trans rfl
       go_wp2_with (refine wpList_boxDot rfl (.tmp 13) (.tmp 202) rfl rfl HU15.out y.f0 rfl rfl ?_; intro V4 hz4 hg4)
       have HB4 := Aside0.mk (grown_on hg4 HW15.out (fun k e => by cases e; rw [HgU.out]; exact Nat.le_refl _))
       go_roundw
       case rel => exact ⟨j + 1, by go_num, by omega, HB4, ⟨by rw [upAt_succ, Hy.out]; exact hz4⟩⟩
       case measure => simp [intOf]; omega
end Go.Proofs.YtjlpaagnajmogaaGreat.PWalk
end
section
namespace Go.Proofs.YtjlpaagnajmogaaGreat.walkHolds
open Go.ChangeShapes Go.WideShapes Go.ChangeAt Go.RowKit
open Go.ChangeMaps (open_string shut_string)
open Go.Proofs.YtjlpaagnajmogaaGreatW.PrintWords
set_option linter.unusedVariables false
theorem six_of {α : Type} {cs : List α} (h : cs.length = 6) : ∃ c0 c1 c2 c3 c4 c5, cs = [c0, c1, c2, c3, c4, c5] := by
 match cs, h with
 | [a, b, c, d, e, f], _ => exact ⟨a, b, c, d, e, f, rfl⟩
theorem open_node {H : Type} {enc : TypeId × Value → H} {W : World} {base : Nat} {sp : Nat → Bool} {held : Bool} {fuel : Nat} {cs : List Value} {x : DataW H × List MemPlace} (h : DataW.trod enc Tryz.prog W base sp held fuel 35 cs = some x) :
  ∃ n : PWalk.Node, cs = PWalk.nodeCells n ∧ PWalk.runeIn n.f3 := by
 have e37 : Tryz.prog.cellsOf 35 = 6 := by kernel_rfl
 have e35 : Tryz.prog.cellsOf 24 = 2 := by kernel_rfl
 have e3 : Tryz.prog.cellsOf 3 = 1 := by kernel_rfl
 have e21 : Tryz.prog.cellsOf 21 = 1 := by kernel_rfl
 obtain ⟨y0, y1, y2, y3, n, rfl, hl, h0, h1, h2, h3⟩ := Go.Joins.trod_struct4 Tryz.underlying35 h
 rw [e37] at hl
 obtain ⟨c0, c1, c2, c3, c4, c5, rfl⟩ := six_of hl
 simp only [e35, e3, e21, List.drop_zero, List.drop_succ_cons, List.take_succ_cons, List.take_zero] at h0 h1 h2 h3
 obtain ⟨_, _, _, _, _, g0, g1⟩ := trod_struct2 Tryz.underlying24 h0
 obtain ⟨_, _, _, _, _, g2, g3⟩ := trod_struct2 Tryz.underlying24 h1
 simp only [e3, List.drop_zero, List.drop_succ_cons, List.take_succ_cons, List.take_zero] at g0 g1 g2 g3
 obtain ⟨k0, i0, _, _⟩ := DataW.trod_int Tryz.underlying3 g0
 obtain ⟨k1, i1, _, _⟩ := DataW.trod_int Tryz.underlying3 g1
 obtain ⟨k2, i2, _, _⟩ := DataW.trod_int Tryz.underlying3 g2
 obtain ⟨k3, i3, _, _⟩ := DataW.trod_int Tryz.underlying3 g3
 obtain ⟨k4, i4, _, _⟩ := DataW.trod_int Tryz.underlying3 h2
 obtain ⟨k5, i5, _, hw⟩ := DataW.trod_int Tryz.underlying21 h3
 simp only [List.cons.injEq, and_true] at i0 i1 i2 i3 i4 i5
 subst i0 i1 i2 i3 i4 i5
 refine ⟨⟨⟨k0, k1⟩, ⟨k2, k3⟩, k4, k5⟩, rfl, ?_⟩
 have hw2 : -2147483648 ≤ k5 ∧ k5 ≤ 2147483647 := by simpa [Lit.wf, IntKind.min, IntKind.max, IntKind.signed, IntKind.bits] using hw
 exact ⟨by show _ ≤ k5; omega, by show k5 ≤ _; omega⟩
/-- A []api.Node that came in, nil or not. -/
theorem open_nodes {H : Type} {enc : TypeId × Value → H} {W : World} {A : Option Addr} {len cap : Nat} {x : DataW H × List MemPlace} {fuel : Nat} (h : DataW.trod enc Tryz.prog W 0 (fun _ => true) true fuel 22 [.slice A len cap] = some x) :
  ∃ xs : List PWalk.Node, xs.length = len ∧ Kd.C PWalk.k35 W A len xs ∧ len ≤ cap ∧ ∀ n ∈ xs, PWalk.runeIn n.f3 := by
 have e37 : Tryz.prog.cellsOf 35 = 6 := by kernel_rfl
 rcases Go.Deep.open_slice Tryz.underlying22 h with ⟨hcs, _⟩ | ⟨a, len', cap', m, n, D, Pl, hcs, _, hl, hm, hmm, _, hx⟩
 ·
  simp at hcs
  obtain ⟨rfl, rfl, rfl⟩ := hcs
  exact ⟨[], rfl, ⟨rfl, by omega, fun hp => absurd hp (by omega)⟩, Nat.le_refl _, fun n hn => by cases hn⟩
 ·
  simp at hcs
  obtain ⟨rfl, rfl, rfl⟩ := hcs
  simp only [if_true] at hmm
  subst hmm
  rw [e37] at hx
  haveI : Inhabited PWalk.Node := ⟨⟨⟨0, 0⟩, ⟨0, 0⟩, 0, 0⟩⟩
  obtain ⟨N, hN⟩ := Go.Deep.choose_lt (α := PWalk.Node) (n := len) (p := fun i nd => PWalk.runeIn nd.f3 ∧ ∀ j u, (PWalk.nodeCells nd)[j]? = some u → W.cell? (a.add (i * 6 + j)) = some u) (fun i hi => by
   obtain ⟨cs', h1, h2⟩ := hx i (by omega)
   obtain ⟨nd, rfl, hr⟩ := open_node h2
   refine ⟨nd, hr, fun j u hu => ?_⟩
   obtain ⟨_, hlen, hc⟩ := World.cells?_some h1
   have hj : j < 6 := (List.getElem?_eq_some_iff.1 hu).1
   rw [← Addr.add_add a (i * 6) j]
   rw [← hu]
   exact hc j (by simpa using hj))
  refine ⟨(List.range len).map N, by simp, ⟨by simp, Nat.le_trans hl hm, fun hp => ⟨a, rfl, fun i nd hi => ?_⟩⟩, hl, fun nd hnd => ?_⟩
  ·
   have hil : i < len := by simpa using (List.getElem?_eq_some_iff.1 hi).1
   have hnd : nd = N i := by simpa [hil] using hi.symm
   subst hnd
   refine ⟨PWalk.nodeCells (N i), rfl, PWalk.k35.K_of_M (PWalk.k35_mkM W 0 (fun _ => True) (N i)), fun j u hu => (hN i hil).2 j u hu⟩
  ·
   obtain ⟨i, hi, rfl⟩ := List.mem_map.1 hnd
   exact (hN i (by simpa using hi)).1
theorem own : ownKnob Tryz.prog.godebug = none := by kernel_rfl
theorem laidOut : laidOutB Tryz.prog = true := by kernel_rfl
set_option maxRecDepth 100000 in
set_option maxHeartbeats 2000000 in
theorem lifted (os : Os) (started : os.Started) (H : Type) (enc : TypeId × Value → H) :
  ReturnsInHanded {} Tryz.checked os 10 .any (Rows.walkHoldsSpec.pre6 enc Tryz.prog Tryz.f10 Rows.walkHoldsRow.domain false) (Rows.walkHoldsSpec.post enc Tryz.prog Tryz.f10 false true false false) := by
 refine returnsInHanded_of_change_sized (C := Tryz.checked) own started (by kernel_rfl) Tryz.func10
  (ChangeSpec.witness6 (enc := enc) (C := Tryz.checked) false ⟨#[], #[.slice none 0 0], []⟩ 8 (by kernel_rfl) (by kernel_rfl) (by kernel_rfl) (by kernel_rfl)) ?_
 intro W base args ds gs before hval0 hW hcnd hsz0 _
 have hval : ∀ (j : Nat) t v, Tryz.f10.params[j]? = some t → args[j]? = some v → Value.okWide Tryz.prog W .any base t v := hval0
 have hW' := hW
 obtain ⟨p, q, hA0, hV, rfl, hfz, hnd⟩ := hW
 have hA : DataW.TrodAll enc Tryz.prog W 0 (fun _ => true) true Tryz.f10.params.toList args.toList ds p := hA0
 rw [Tryz.params10] at hA hval
 obtain ⟨v0, vs0, d0, ds0, p0, q0, hargs, rfl, rfl, h0, r0⟩ := trodAll_cons hA
 obtain ⟨rfl, rfl, rfl⟩ := trodAll_nil r0
 obtain rfl : args = #[v0] := by cases args; simp_all
 obtain ⟨rfl, rfl⟩ := trodVars_none hV
 obtain ⟨A0, len0, cap0, rfl⟩ := okWide_slice Tryz.underlying22 (hval 0 22 v0 rfl rfl)
 have k0 := h0
 have lt0 : ∀ x ∈ p0, x.block < W.heap.size := by obtain ⟨m, hm⟩ := k0; exact DataW.trod_lt m _ _ _ hm
 obtain ⟨f0, hf0⟩ := h0
 obtain ⟨xs0, rfl, hr0, hc0, hi0⟩ := open_nodes hf0
 clear hA0 hval0 hsz0
 refine (PWalk.WalkHolds.walk A0 cap0 xs0 W hr0 hc0 hi0).mono fun e W' ⟨he, bel⟩ => ?_
 subst he
 exact ⟨_, rfl, _, _, _, [], _, [], hW', trodAll_mk1 (shut_bool Tryz.underlying4 _), (trodAll_cons_mk (Below.trod laidOut (by kernel_rfl) (of_decide_eq_true (by kernel_rfl)) k0 bel lt0) trodAll_mk0), rfl, bel.frame _, fun h => by cases h⟩
theorem over : Rows.walkHoldsRow.holds Tryz.pinned (OpenSpec.ofChange Rows.walkHoldsSpec) :=
 OpenClaim.holds_of_wide 10 Tryz.f10 rfl rfl rfl rfl rfl rfl rfl ⟨rfl, rfl, rfl, rfl, rfl⟩ rfl rfl rfl rfl rfl (by kernel_rfl) Tryz.func10 (by kernel_rfl)
  (of_decide_eq_true (by kernel_rfl)) (by unfold Func.isWrapper; first | (rw [if_pos (by decide +kernel)]; kernel_rfl) | (rw [if_neg (by decide +kernel)]; exact ⟨rfl, rfl⟩))
  (fun os started H enc _ => lifted os started H enc)
theorem proved : Rows.WalkHoldsSaid := over
#print axioms proved
end Go.Proofs.YtjlpaagnajmogaaGreat.walkHolds
end
