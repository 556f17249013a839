/-
  The law EditLongs returns true for every number and every rune, and leaves its input as it was: as many runes as may be inserted and deleted at once, and one more. Part 11 of 12.
-/
import Derived.Test.YtmbndijbpgobeaaGreatLJ
import Derived.Laws.Tables
section
namespace Go.Proofs.YtmbndijbpgobeaaGreat.PWalk
open Go.RowKit Go.Proofs.YtmbndijbpgobeaaGreatW.PrintWords Go.Proofs.YtmbndijbpgobeaaGreatW.PrintLast Go.Proofs.YtmbndijbpgobeaaGreatW.PrintMore
set_option linter.unusedVariables false
set_option linter.unusedSimpArgs false
open Go.Shelf
attribute [local go_sem] Oper.semAt_some
theorem op_boxDot {o : Oper} {a : Act} {K : Act → World → Prop} {Q : Exit → Act → World → Prop} (s x : Operand) (ho : o.op = .store 25 s x) (hd : o.dst = none) {w : World} {g : Nat} {e : Dot}
  (hg : w.heap[g]? = some (dotC e)) (y : Dot) (hs : a.eval s = .pointer (some ⟨g, 0, none⟩)) (hx : a.eval x = vDot y)
  (hk : ∀ w', w'.heap[g]? = some (dotC y) → w.grownBy w' (some g) → K a w') : o.wp Tryz.prog a w K Q := by
 obtain ⟨i0, hi0, hz0, hz1, hz2⟩ := info_get infoD
 refine wp_store_row 25 s x ho g _ hs hx 25 _ hg (by rw [hi0]; show some i0.size = some 2; rw [hz1]) rfl (Array.all_eq_true_iff_forall_mem.2 (by intro v hv; simp at hv; rcases hv with rfl | rfl <;> rfl)) ?_
 rw [hd]
 exact hk _ (setRow_at hg _) (setRow_grown w g _)
theorem dot_cells {V : World} {g : Nat} {d : Dot} (h : V.heap[g]? = some (dotC d)) : V.cell? ⟨g, 0, none⟩ = some (.int .i64 d.f0) ∧ V.cell? ⟨g, 1, none⟩ = some (.int .i64 d.f1) := ⟨(blk_cell h 0).trans rfl, (blk_cell h 1).trans rfl⟩
/-- What has come up where a node is built. -/
structure JN (W0 : World) (x : Node) (l17 l18 : Bool) (g : Nat) (V : World) : Prop where
 ord : l18 = true → l17 = true
 below : Below W0.heap.size W0 V
 bz : l17 = true → l18 = false → V.heap[g]? = some boxZ
 bx : l18 = true → V.heap[g]? = some (boxN x)
 ge : l17 = true → W0.heap.size ≤ g
/-- What has come up where it is put to the end, and becomes the parent. -/
structure JC (w : World) (B : Nat) (out : List Node) (x : Node) (p d : Dot) (gx gp gd : Nat) (vo : Value) (l0 l2 l3 l6 l7 : Bool) (g : Nat) (v2 : Value) (V : World) : Prop where
 ord3 : l3 = true → l2 = true
 ord6 : l6 = true → l3 = true ∧ l0 = true
 below : Below w.heap.size w V
 size : B ≤ V.heap.size
 r1 : l3 = false → RN V B vo out
 bx : l2 = true → l3 = false → V.heap[g]? = some (boxN x)
 r2 : l3 = true → RN V B v2 (out ++ [x])
 bn : V.heap[gx]? = some (boxN x)
 bd : V.heap[gd]? = some (dotC d)
 bp : l7 = false → V.heap[gp]? = some (dotC p)
 bq : l7 = true → V.heap[gp]? = some (dotC x.f0)
def ch9Inv (W0 : World) (al : Addr) (Ao : Option Addr) (m c1 k co gd gp : Nat) (last r : Int) (d p : Dot) (z0 z1 z2 z4 z6 z7 z8 z9 z11 z15 z16 z17 z18 z19 z20 z21 z22 z23 z24 z25 z26 z27 z28 z29 z30 z32 z33 z34 z35 z36 z37 z38 z39 z40 z41 z42 z43 z44 z45 z46 z47 z48 z49 z50 z51 z52 z53 z54 z55 z56 z57 z58 z59 z60 z61 z62 z63 z64 z65 z66 : Value) (L : Array Bool) (ac : Act) (V : World) : Prop := ∃ (l0 l1 l2 l3 l4 l5 l6 l7 l8 l9 l10 l11 l12 l13 l14 l15 l16 l17 l18 : Bool) (g : Nat), L = #[l0, l1, l2, l3, l4, l5, l6, l7, l8, l9, l10, l11, l12, l13, l14, l15, l16, l17, l18] ∧ ac = { tmps := #[z0, z1, z2, .slice (some al) m c1, z4, .pointer (some ⟨gd, 0, none⟩), z6, z7, z8, z9, .pointer (some ⟨gp, 0, none⟩), z11, .int .i64 last, .slice Ao k co, .int .i64 (k : Int), selv l17 (.pointer (some ⟨g, 0, none⟩)) (z15), z16, z17, z18, z19, z20, z21, z22, z23, z24, z25, z26, z27, z28, z29, z30, .int .i64 (k : Int), z32, z33, selv l0 (.pointer (some ⟨gd, 0, none⟩)) (z34), selv l1 (.int .i64 d.f0) (z35), selv l2 (.pointer (some ⟨gd, 1, none⟩)) (z36), selv l3 (.int .i64 d.f1) (z37), selv l4 (.int .i64 (k : Int)) (z38), selv l5 (.int .i64 (d.f1 + (k : Int))) (z39), selv l6 (vDot ⟨d.f0, d.f1 + (k : Int)⟩) (z40), selv l7 (vDot p) (z41), selv l8 (.int .i64 last) (z42), selv l9 (.int .i64 (last + 1)) (z43), selv l10 (.int .i64 (k : Int)) (z44), selv l11 (.int .i64 (last + 1 + (k : Int))) (z45), selv l12 (.slice (some al) m c1) (z46), selv l13 (.int .i64 (k : Int)) (z47), selv l14 (.pointer (some (al.add k))) (z48), selv l15 (.int .i32 r) (z49), selv l16 (vNode ⟨⟨d.f0, d.f1 + (k : Int)⟩, p, last + 1 + (k : Int), r⟩) (z50), z51, z52, z53, z54, z55, z56, z57, z58, z59, z60, z61, z62, z63, z64, z65, z66], defers := [] } ∧ Aside0 (JN W0 ⟨⟨d.f0, d.f1 + (k : Int)⟩, p, last + 1 + (k : Int), r⟩ l17 l18 g V)
def ch13Inv (W0 : World) (al : Addr) (Ao : Option Addr) (m c1 k co gd gp gx B : Nat) (last : Int) (d p : Dot) (x : Node) (out : List Node) (z0 z1 z2 z4 z6 z7 z8 z9 z11 z16 z17 z18 z19 z20 z21 z22 z23 z24 z25 z26 z27 z28 z29 z30 z32 z33 z34 z35 z36 z37 z38 z39 z40 z41 z42 z43 z44 z45 z46 z47 z48 z49 z50 z51 z52 z53 z54 z55 z56 z57 z58 z59 z60 z61 z62 z63 z64 z65 z66 : Value) (L : Array Bool) (ac : Act) (V : World) : Prop := ∃ (l0 l1 l2 l3 l4 l5 l6 l7 : Bool) (g : Nat) (v2 : Value), L = #[l0, l1, l2, l3, l4, l5, l6, l7] ∧ ac = { tmps := #[z0, z1, z2, .slice (some al) m c1, z4, .pointer (some ⟨gd, 0, none⟩), z6, z7, z8, z9, .pointer (some ⟨gp, 0, none⟩), z11, .int .i64 last, selv l6 (v2) (.slice Ao k co), .int .i64 (k : Int), .pointer (some ⟨gx, 0, none⟩), z16, z17, z18, z19, z20, z21, z22, z23, z24, z25, z26, z27, z28, z29, z30, .int .i64 (k : Int), z32, z33, z34, z35, z36, z37, z38, z39, z40, z41, z42, z43, z44, z45, z46, z47, z48, z49, z50, z51, z52, z53, z54, z55, z56, z57, z58, selv l0 (.slice Ao k co) (z59), selv l1 (vNode x) (z60), selv l2 (.slice (some ⟨g, 0, none⟩) 1 1) (z61), selv l3 (v2) (z62), selv l4 (.pointer (some ⟨gx, 0, none⟩)) (z63), selv l5 (vDot x.f0) (z64), z65, z66], defers := [] } ∧ Aside0 (JC W0 B out x p d gx gp gd (.slice Ao k co) l0 l2 l3 l6 l7 g v2 V)
set_option maxHeartbeats 4000000 in
set_option maxRecDepth 100000 in
theorem chain_call (A0 : Option Addr) (c0 : Nat) (l0 : List Node) (d : Dot) (a1 : Int) (A1 : Option Addr) (c1 : Nat) (rs : List Int) (w : World) (hr0 : Kd.C k53 w A0 l0.length l0) (hc0 : l0.length ≤ c0) (hr1 : Kd.C (Kd.int .i32) w A1 rs.length rs) (hc1 : rs.length ≤ c1)
  (hl : l0.length ≤ 400000) (hrl : rs.length ≤ 10000) (hs : storeOk l0 = true) (ha : 0 ≤ a1 ∧ a1 ≤ ((visOf l0).length : Int)) (hd : 0 ≤ d.f1 ∧ d.f1 + (rs.length : Int) ≤ 4294967296) (hla : 0 ≤ lastOf l0 ∧ lastOf l0 + (rs.length : Int) ≤ 4611686018427387904) :
  Calls Tryz.prog 53 #[.slice A0 l0.length c0, vDot d, .int .i64 a1, .slice A1 rs.length c1] w fun e w' => ∃ v0_ : Value, e = .returned (.tuple #[v0_, .int .i64 (chainR l0 d a1 rs).2]) ∧ Kd.R k53 53 w' w.heap.size (fun _ => True) v0_ (chainR l0 d a1 rs).1 ∧ Below w.heap.size w w' := by
 have HR := Aside0.mk hr0
 have HC := Aside0.mk hc0
 have HRR := Aside0.mk hr1
 have HL := Aside0.mk hl
 have HRL := Aside0.mk hrl
 have HS := Aside0.mk hs
 have HA := Aside0.mk ha
 have HD := Aside0.mk hd
 have HLA := Aside0.mk hla
 obtain ⟨n, Hn⟩ : ∃ n, Aside0 (l0.length = n) := ⟨_, ⟨rfl⟩⟩
 obtain ⟨m, Hm⟩ : ∃ m, Aside0 (rs.length = m) := ⟨_, ⟨rfl⟩⟩
 obtain ⟨last, Hla⟩ : ∃ t, Aside0 (lastOf l0 = t) := ⟨_, ⟨rfl⟩⟩
 obtain ⟨p0, Hp0⟩ : ∃ p, Aside0 (leftE l0 a1 = p) := ⟨_, ⟨rfl⟩⟩
 obtain ⟨ks, Hks⟩ : ∃ ks, Aside0 (l0.map (·.f0) = ks) := ⟨_, ⟨rfl⟩⟩
 have HIB : Aside0 (incB ks = true) := ⟨by rw [← Hks.out]; unfold storeOk at hs; rw [Bool.and_eq_true] at hs; exact hs.2⟩
 have HDC := Aside0.mk (blk_new w (dotC d))
 have HB := Aside0.mk (below_alloc (Below.refl _ w) (dotC d))
 have hcall := index_Left.calls 3 A0 c0 l0 a1 p0.f0 p0.f1 0 (w.alloc (dotC d)) (Kd.C_below hr0 HB.out) hc0 (by rw [left_is (by omega) hs ha.1 ha.2 (Nat.le_refl 3), Hp0.out])
 rw [Hn.out] at hcall
 rw [Hn.out, Hm.out]
 have HCALL := Aside0.mk hcall
 rw [Hm.out] at HRR HRL HD HLA
 rw [Hla.out] at HLA
 have hu := Tryz.underlying53
 have hu2 := Tryz.underlying25
 obtain ⟨gd, Hgd⟩ : ∃ g, Aside0 (w.heap.size = g) := ⟨_, ⟨rfl⟩⟩
 clear hcall hr0 hc0 hr1 hc1 hl hrl hs ha hd hla
 go_enter Tryz.func53, Tryz.ntmps53
 go_wp2_with fail
 refine HCALL.out.mono ?_
 rintro e V1 ⟨rfl, hb⟩
 have HDC := Aside0.mk (blk_keep HDC.out hb)
 have HLT := Aside0.mk (blk_lt HDC.out)
 have HB := Aside0.mk (below_more HB.out hb)
 clear hb HCALL
 have HPC := Aside0.mk (blk_new V1 (dotC p0))
 have HBP := Aside0.mk (below_alloc (Below.refl _ V1) (dotC p0))
 have HDC := Aside0.mk (blk_keep HDC.out HBP.out)
 have HBB := Aside0.mk (below_more HB.out HBP.out)
 have hcall := edit_Latest.calls (n + 1) A0 c0 l0 last (V1.alloc (dotC p0)) (Kd.C_below HR.out HBB.out) HC.out (by rw [latest_is (by have := HL.out; omega) (by rw [Hn.out]; omega), if_pos HS.out, Hla.out])
 rw [Hn.out] at hcall
 have HCALL := Aside0.mk hcall
 clear hcall
 go_wp2_with fail
 refine HCALL.out.mono ?_
 rintro e V2 ⟨rfl, hb⟩
 have HDC := Aside0.mk (blk_keep HDC.out hb)
 have HPC := Aside0.mk (blk_keep HPC.out hb)
 have HGP : Aside0 (w.heap.size < V1.heap.size ∧ V1.heap.size < V2.heap.size) := ⟨HLT.out, blk_lt HPC.out⟩
 have HB := Aside0.mk (below_more HBB.out hb)
 clear hb HCALL HBP HBB
 obtain ⟨gp, Hgp⟩ : ∃ g, Aside0 (V1.heap.size = g) := ⟨_, ⟨rfl⟩⟩
 rw [Hgp.out] at HPC HGP ⊢
 rw [Hgd.out] at HDC HGP ⊢
 obtain ⟨B, HBe⟩ : ∃ b, Aside0 (V2.heap.size = b) := ⟨_, ⟨rfl⟩⟩
 rw [HBe.out] at HGP
 have HWB : Aside0 (w.heap.size ≤ gp ∧ w.heap.size ≤ B) := ⟨by have := HGP.out; have := Hgd.out; omega⟩
 go_wp2_with fail
 go_loopw [13, 31] (fun s i wr => ∃ (k : Nat) (Ao : Option Addr) (co : Nat), s = .slice Ao k co ∧ i = .int .i64 k ∧ k ≤ m ∧ Aside0 (∀ j, j < k → (⟨d.f0, d.f1 + (j : Int)⟩ : Dot) ∉ ks) ∧ Aside0 (RN wr B (.slice Ao k co) ((List.range k).map (nodeE d p0 last rs))) ∧ Aside0 (wr.heap[gd]? = some (dotC d)) ∧ Aside0 (wr.heap[gp]? = some (dotC (parE d p0 k))) ∧ Aside0 (Below w.heap.size w wr) ∧ Aside0 (B ≤ wr.heap.size)) (fun _ i _ => m - (intOf i).toNat)
 case atStart => exact ⟨0, none, 0, rfl, rfl, Nat.zero_le _, ⟨fun j h => absurd h (Nat.not_lt_zero _)⟩, ⟨Kd.R_nil _ _ _ _ _⟩, HDC, HPC, HB, ⟨Nat.le_of_eq HBe.out.symm⟩⟩
 case round =>
  obtain ⟨k, Ao, co, rfl, rfl, hk, HNO, HO, HDC, HPC, HB, HSZ⟩ := hrel
  by_cases hlt : k < m
  ·
   obtain ⟨r, Hr⟩ : ∃ r, Aside0 (rs[k]? = some r) := ⟨_, ⟨List.getElem?_eq_getElem (by rw [Hm.out]; exact hlt)⟩⟩
   obtain ⟨p, Hp⟩ : ∃ p, Aside0 (parE d p0 k = p) := ⟨_, ⟨rfl⟩⟩
   rw [Hp.out] at HPC
   obtain ⟨al, e, _⟩ := rune_at HRR.out HB.out k r Hr.out
   subst e
   obtain ⟨x, Hx⟩ : ∃ x, Aside0 (x = (⟨⟨d.f0, d.f1 + (k : Int)⟩, p, last + 1 + (k : Int), r⟩ : Node)) := ⟨_, ⟨rfl⟩⟩
   have HXE : Aside0 (nodeE d p0 last rs k = x) := ⟨by rw [Hx.out]; unfold nodeE; rw [Hp.out, List.getD_eq_getElem?_getD, Hr.out]; rfl⟩
   have HKM : Aside0 (k < m ∧ m ≤ 10000) := ⟨hlt, HRL.out⟩
   have HW5 : Aside0 (wrap64 (d.f1 + (k : Int)) = d.f1 + (k : Int)) := ⟨by have := HKM.out; have := HD.out; unfold wrap64; omega⟩
   have HW9 : Aside0 (wrap64 (last + 1) = last + 1) := ⟨by have := HKM.out; have := HLA.out; unfold wrap64; omega⟩
   have HW11 : Aside0 (wrap64 (last + 1 + (k : Int)) = last + 1 + (k : Int)) := ⟨by have := HKM.out; have := HLA.out; unfold wrap64; omega⟩
   go_wp2_with fail
   refine AnyOrder.wp_region (by kernel_rfl) (ch9Inv wr.drew al Ao m c1 k co gd gp last r d p _ _ _ _ _ _ _ _ _ _ _ _ _ _ _ _ _ _ _ _ _ _ _ _ _ _ _ _ _ _ _ _ _ _ _ _ _ _ _ _ _ _ _ _ _ _ _ _ _ _ _ _ _ _ _ _ _ _ _ _) ⟨false, false, false, false, false, false, false, false, false, false, false, false, false, false, false, false, false, false, false, 0, rfl, rfl, ⟨⟨fun h => (by cases h), Below.refl _ _, fun h _ => (by cases h), fun h => (by cases h), fun h => (by cases h)⟩⟩⟩ ?step ?last
   case step =>
    rintro L ac V i ⟨l0, l1, l2, l3, l4, l5, l6, l7, l8, l9, l10, l11, l12, l13, l14, l15, l16, l17, l18, g, rfl, rfl, HF⟩ hi K hK
    have h1 : i = 0 ∨ i = 1 ∨ i = 2 ∨ i = 3 ∨ i = 4 ∨ i = 5 ∨ i = 6 ∨ i = 7 ∨ i = 8 ∨ i = 9 ∨ i = 10 ∨ i = 11 ∨ i = 12 ∨ i = 13 ∨ i = 14 ∨ i = 15 ∨ i = 16 ∨ i = 17 ∨ i = 18 := by
     have h1 := (AnyOrder.mem_ready hi).1
     clear hi hK
     change i < 19 at h1
     omega
    rcases h1 with rfl | rfl | rfl | rfl | rfl | rfl | rfl | rfl | rfl | rfl | rfl | rfl | rfl | rfl | rfl | rfl | rfl | rfl | rfl
    ·
     obtain rfl : l0 = false := (AnyOrder.mem_ready hi).2.1
     clear hi
     refine AnyOrder.wpOp_go rfl (by rfl) ?_
     go_wp2_with fail
     exact ⟨true, l1, l2, l3, l4, l5, l6, l7, l8, l9, l10, l11, l12, l13, l14, l15, l16, l17, l18, g, rfl, rfl, HF⟩
    ·
     obtain rfl : l1 = false := (AnyOrder.mem_ready hi).2.1
     obtain rfl : l0 = true := AnyOrder.dep (q := 0) hi rfl rfl rfl
     clear hi
     simp only [sel_true, selv_true] at hK ⊢
     obtain ⟨q0, q1⟩ := dot_cells (blk_keep (blk_drew HDC.out) HF.out.below)
     refine AnyOrder.wpOp_go rfl (by rfl) ?_
     go_wp2_with fail
     exact ⟨true, true, l2, l3, l4, l5, l6, l7, l8, l9, l10, l11, l12, l13, l14, l15, l16, l17, l18, g, rfl, rfl, HF⟩
    ·
     obtain rfl : l2 = false := (AnyOrder.mem_ready hi).2.1
     clear hi
     refine AnyOrder.wpOp_go rfl (by rfl) ?_
     go_wp2_with fail
     exact ⟨l0, l1, true, l3, l4, l5, l6, l7, l8, l9, l10, l11, l12, l13, l14, l15, l16, l17, l18, g, rfl, rfl, HF⟩
    ·
     obtain rfl : l3 = false := (AnyOrder.mem_ready hi).2.1
     obtain rfl : l2 = true := AnyOrder.dep (q := 0) hi rfl rfl rfl
     clear hi
     simp only [sel_true, selv_true] at hK ⊢
     obtain ⟨q0, q1⟩ := dot_cells (blk_keep (blk_drew HDC.out) HF.out.below)
     refine AnyOrder.wpOp_go rfl (by rfl) ?_
     go_wp2_with fail
     exact ⟨l0, l1, true, true, l4, l5, l6, l7, l8, l9, l10, l11, l12, l13, l14, l15, l16, l17, l18, g, rfl, rfl, HF⟩
    ·
     obtain rfl : l4 = false := (AnyOrder.mem_ready hi).2.1
     clear hi
     refine AnyOrder.wpOp_go rfl (by rfl) ?_
     go_wp2_with fail
     exact ⟨l0, l1, l2, l3, true, l5, l6, l7, l8, l9, l10, l11, l12, l13, l14, l15, l16, l17, l18, g, rfl, rfl, HF⟩
    ·
     obtain rfl : l5 = false := (AnyOrder.mem_ready hi).2.1
     obtain rfl : l3 = true := AnyOrder.dep (q := 0) hi rfl rfl rfl
     obtain rfl : l4 = true := AnyOrder.dep (q := 1) hi rfl rfl rfl
     clear hi
     simp only [sel_true, selv_true] at hK ⊢
     refine AnyOrder.wpOp_go rfl (by rfl) ?_
     go_wp2_with fail
     rw [HW5.out]
     exact ⟨l0, l1, l2, true, true, true, l6, l7, l8, l9, l10, l11, l12, l13, l14, l15, l16, l17, l18, g, rfl, rfl, HF⟩
    ·
     obtain rfl : l6 = false := (AnyOrder.mem_ready hi).2.1
     obtain rfl : l1 = true := AnyOrder.dep (q := 0) hi rfl rfl rfl
     obtain rfl : l5 = true := AnyOrder.dep (q := 1) hi rfl rfl rfl
     clear hi
     simp only [sel_true, selv_true] at hK ⊢
     refine AnyOrder.wpOp_go rfl (by rfl) ?_
     go_wp2_with fail
     exact ⟨l0, true, l2, l3, l4, true, true, l7, l8, l9, l10, l11, l12, l13, l14, l15, l16, l17, l18, g, rfl, rfl, HF⟩
    ·
     obtain rfl : l7 = false := (AnyOrder.mem_ready hi).2.1
     clear hi
     obtain ⟨q0, q1⟩ := dot_cells (blk_keep (blk_drew HPC.out) HF.out.below)
     refine AnyOrder.wpOp_go rfl (by rfl) ?_
     go_wp2_with fail
     exact ⟨l0, l1, l2, l3, l4, l5, l6, true, l8, l9, l10, l11, l12, l13, l14, l15, l16, l17, l18, g, rfl, rfl, HF⟩
    ·
     obtain rfl : l8 = false := (AnyOrder.mem_ready hi).2.1
     clear hi
     refine AnyOrder.wpOp_go rfl (by rfl) ?_
     go_wp2_with fail
     exact ⟨l0, l1, l2, l3, l4, l5, l6, l7, true, l9, l10, l11, l12, l13, l14, l15, l16, l17, l18, g, rfl, rfl, HF⟩
    ·
     obtain rfl : l9 = false := (AnyOrder.mem_ready hi).2.1
     obtain rfl : l8 = true := AnyOrder.dep (q := 0) hi rfl rfl rfl
     clear hi
     simp only [sel_true, selv_true] at hK ⊢
     refine AnyOrder.wpOp_go rfl (by rfl) ?_
     go_wp2_with fail
     rw [HW9.out]
     exact ⟨l0, l1, l2, l3, l4, l5, l6, l7, true, true, l10, l11, l12, l13, l14, l15, l16, l17, l18, g, rfl, rfl, HF⟩
    ·
     obtain rfl : l10 = false := (AnyOrder.mem_ready hi).2.1
     clear hi
     refine AnyOrder.wpOp_go rfl (by rfl) ?_
     go_wp2_with fail
     exact ⟨l0, l1, l2, l3, l4, l5, l6, l7, l8, l9, true, l11, l12, l13, l14, l15, l16, l17, l18, g, rfl, rfl, HF⟩
    ·
     obtain rfl : l11 = false := (AnyOrder.mem_ready hi).2.1
     obtain rfl : l9 = true := AnyOrder.dep (q := 0) hi rfl rfl rfl
     obtain rfl : l10 = true := AnyOrder.dep (q := 1) hi rfl rfl rfl
     clear hi
     simp only [sel_true, selv_true] at hK ⊢
     refine AnyOrder.wpOp_go rfl (by rfl) ?_
     go_wp2_with fail
     rw [HW11.out]
     exact ⟨l0, l1, l2, l3, l4, l5, l6, l7, l8, true, true, true, l12, l13, l14, l15, l16, l17, l18, g, rfl, rfl, HF⟩
    ·
     obtain rfl : l12 = false := (AnyOrder.mem_ready hi).2.1
     clear hi
     refine AnyOrder.wpOp_go rfl (by rfl) ?_
     go_wp2_with fail
     exact ⟨l0, l1, l2, l3, l4, l5, l6, l7, l8, l9, l10, l11, true, l13, l14, l15, l16, l17, l18, g, rfl, rfl, HF⟩
    ·
     obtain rfl : l13 = false := (AnyOrder.mem_ready hi).2.1
     clear hi
     refine AnyOrder.wpOp_go rfl (by rfl) ?_
     go_wp2_with fail
     exact ⟨l0, l1, l2, l3, l4, l5, l6, l7, l8, l9, l10, l11, l12, true, l14, l15, l16, l17, l18, g, rfl, rfl, HF⟩
    ·
     obtain rfl : l14 = false := (AnyOrder.mem_ready hi).2.1
     obtain rfl : l12 = true := AnyOrder.dep (q := 0) hi rfl rfl rfl
     obtain rfl : l13 = true := AnyOrder.dep (q := 1) hi rfl rfl rfl
     clear hi
     simp only [sel_true, selv_true] at hK ⊢
     have hkm := HKM.out
     refine AnyOrder.wpOp_go rfl (by rfl) ?_
     go_wp2_with fail
     exact ⟨l0, l1, l2, l3, l4, l5, l6, l7, l8, l9, l10, l11, true, true, true, l15, l16, l17, l18, g, rfl, rfl, HF⟩
    ·
     obtain rfl : l15 = false := (AnyOrder.mem_ready hi).2.1
     obtain rfl : l14 = true := AnyOrder.dep (q := 0) hi rfl rfl rfl
     clear hi
     simp only [sel_true, selv_true] at hK ⊢
     obtain ⟨al', e, q0⟩ := rune_at HRR.out (below_more HB.out (below_more (below_drew1 (Below.refl _ wr)) HF.out.below)) k r Hr.out
     cases e
     refine AnyOrder.wpOp_go rfl (by rfl) ?_
     go_wp2_with fail
     exact ⟨l0, l1, l2, l3, l4, l5, l6, l7, l8, l9, l10, l11, l12, l13, true, true, l16, l17, l18, g, rfl, rfl, HF⟩
    ·
     obtain rfl : l16 = false := (AnyOrder.mem_ready hi).2.1
     obtain rfl : l6 = true := AnyOrder.dep (q := 0) hi rfl rfl rfl
     obtain rfl : l7 = true := AnyOrder.dep (q := 1) hi rfl rfl rfl
     obtain rfl : l11 = true := AnyOrder.dep (q := 2) hi rfl rfl rfl
     obtain rfl : l15 = true := AnyOrder.dep (q := 3) hi rfl rfl rfl
     clear hi
     simp only [sel_true, selv_true] at hK ⊢
     refine AnyOrder.wpOp_go rfl (by rfl) ?_
     go_wp2_with fail
     exact ⟨l0, l1, l2, l3, l4, l5, true, true, l8, l9, l10, true, l12, l13, l14, true, true, l17, l18, g, rfl, rfl, HF⟩
    ·
     obtain rfl : l17 = false := (AnyOrder.mem_ready hi).2.1
     clear hi
     obtain rfl : l18 = false := by cases l18 with | false => rfl | true => cases HF.out.ord rfl
     have hb1 := below_alloc (Below.refl _ V) boxZ
     refine AnyOrder.wpOp_go rfl (by rfl) ?_
     go_wp2_with fail
     exact ⟨l0, l1, l2, l3, l4, l5, l6, l7, l8, l9, l10, l11, l12, l13, l14, l15, l16, true, false, V.heap.size, rfl, rfl, ⟨⟨fun h => (by cases h), below_more HF.out.below hb1, fun _ _ => blk_new _ _, fun h => (by cases h), fun _ => HF.out.below.size⟩⟩⟩
    ·
     obtain rfl : l18 = false := (AnyOrder.mem_ready hi).2.1
     obtain rfl : l17 = true := AnyOrder.dep (q := 0) hi rfl rfl rfl
     obtain rfl : l16 = true := AnyOrder.dep (q := 1) hi rfl rfl rfl
     obtain rfl : l0 = true := AnyOrder.dep (q := 2) hi rfl rfl rfl
     obtain rfl : l1 = true := AnyOrder.dep (q := 3) hi rfl rfl rfl
     obtain rfl : l2 = true := AnyOrder.dep (q := 4) hi rfl rfl rfl
     obtain rfl : l3 = true := AnyOrder.dep (q := 5) hi rfl rfl rfl
     obtain rfl : l4 = true := AnyOrder.dep (q := 6) hi rfl rfl rfl
     obtain rfl : l5 = true := AnyOrder.dep (q := 7) hi rfl rfl rfl
     obtain rfl : l6 = true := AnyOrder.dep (q := 8) hi rfl rfl rfl
     obtain rfl : l7 = true := AnyOrder.dep (q := 9) hi rfl rfl rfl
     obtain rfl : l8 = true := AnyOrder.dep (q := 10) hi rfl rfl rfl
     obtain rfl : l9 = true := AnyOrder.dep (q := 11) hi rfl rfl rfl
     obtain rfl : l10 = true := AnyOrder.dep (q := 12) hi rfl rfl rfl
     obtain rfl : l11 = true := AnyOrder.dep (q := 13) hi rfl rfl rfl
     obtain rfl : l12 = true := AnyOrder.dep (q := 14) hi rfl rfl rfl
     obtain rfl : l13 = true := AnyOrder.dep (q := 15) hi rfl rfl rfl
     obtain rfl : l14 = true := AnyOrder.dep (q := 16) hi rfl rfl rfl
     obtain rfl : l15 = true := AnyOrder.dep (q := 17) hi rfl rfl rfl
     clear hi
     simp only [sel_true, selv_true] at hK ⊢
     refine AnyOrder.wpOp_go rfl (by rfl) ?_
     refine op_boxNode (.tmp 15) (.tmp 50) rfl rfl (HF.out.bz rfl rfl) ⟨⟨d.f0, d.f1 + (k : Int)⟩, p, last + 1 + (k : Int), r⟩ rfl rfl ?_
     intro W4 h1 h2
     exact hK _ _ ⟨true, true, true, true, true, true, true, true, true, true, true, true, true, true, true, true, true, true, true, g, rfl, rfl, ⟨⟨fun _ => rfl, HF.out.below.grown h2 HF.out.below.size (fun q e => by cases e; exact HF.out.ge rfl), fun _ h => (by cases h), fun _ => h1, HF.out.ge⟩⟩⟩
   case last =>
    rintro L ac V ⟨l0, l1, l2, l3, l4, l5, l6, l7, l8, l9, l10, l11, l12, l13, l14, l15, l16, l17, l18, g, rfl, rfl, HF⟩ hr
    have hall := AnyOrder.all_listed rfl (by kernel_rfl) hr
    clear hr
    obtain rfl : l0 = true := hall 0 (by decide)
    obtain rfl : l1 = true := hall 1 (by decide)
    obtain rfl : l2 = true := hall 2 (by decide)
    obtain rfl : l3 = true := hall 3 (by decide)
    obtain rfl : l4 = true := hall 4 (by decide)
    obtain rfl : l5 = true := hall 5 (by decide)
    obtain rfl : l6 = true := hall 6 (by decide)
    obtain rfl : l7 = true := hall 7 (by decide)
    obtain rfl : l8 = true := hall 8 (by decide)
    obtain rfl : l9 = true := hall 9 (by decide)
    obtain rfl : l10 = true := hall 10 (by decide)
    obtain rfl : l11 = true := hall 11 (by decide)
    obtain rfl : l12 = true := hall 12 (by decide)
    obtain rfl : l13 = true := hall 13 (by decide)
    obtain rfl : l14 = true := hall 14 (by decide)
    obtain rfl : l15 = true := hall 15 (by decide)
    obtain rfl : l16 = true := hall 16 (by decide)
    obtain rfl : l17 = true := hall 17 (by decide)
    obtain rfl : l18 = true := hall 18 (by decide)
    clear hall
    simp only [sel_true, selv_true]
    have HX : Aside0 (V.heap[g]? = some (boxN x)) := ⟨by rw [Hx.out]; exact HF.out.bx rfl⟩
    have hbb := below_more (below_drew1 (Below.refl _ wr)) HF.out.below
    have HB := Aside0.mk (below_more HB.out hbb)
    have HNE : Aside0 (∀ q, (Value.slice Ao k co).ownBlock = some q → q ≠ g) := ⟨fun q hq => Nat.ne_of_lt (Nat.lt_of_lt_of_le (RN.lt HO.out hq) (HF.out.ge rfl))⟩
    have HGX : Aside0 (B ≤ g) := ⟨Nat.le_trans HSZ.out (HF.out.ge rfl)⟩
    have HO := Aside0.mk (RN.below' HO.out hbb)
    have HDC := Aside0.mk (blk_keep HDC.out hbb)
    have HPC := Aside0.mk (blk_keep HPC.out hbb)
    have HSZ := Aside0.mk (Nat.le_trans HSZ.out hbb.size)
    have HXD : Aside0 (x.f0 = ⟨d.f0, d.f1 + (k : Int)⟩) := ⟨by rw [Hx.out]⟩
    clear HF hbb Hx HW5 HW9 HW11
    generalize g = gx at *
    have HBS := bsearchS_call l0 A0 n c0 x.f0 V ks Hks.out HIB.out Hn.out (by have := HL.out; have := Hn.out; omega) (by have := Kd.C_below HR.out HB.out; rwa [Hn.out] at this)
    obtain ⟨b, Hb⟩ : ∃ b, Aside0 (hasK ks x.f0 = b) := ⟨_, ⟨rfl⟩⟩
    rw [Hb.out] at HBS
    have HBS := Aside0.mk HBS
    obtain ⟨x0, x1, x2, x3, x4, x5⟩ := box_six HX.out
    go_wp2_with fail
    clear x0 x1 x2 x3 x4 x5
    refine HBS.out.mono ?_
    rintro e V4 ⟨rfl, hb⟩
    have HX := Aside0.mk (blk_keep HX.out hb)
    have HDC := Aside0.mk (blk_keep HDC.out hb)
    have HPC := Aside0.mk (blk_keep HPC.out hb)
    have HB := Aside0.mk (below_more HB.out hb)
    have HO := Aside0.mk (RN.below' HO.out hb)
    have HSZ := Aside0.mk (Nat.le_trans HSZ.out hb.size)
    clear hb HBS
    cases b with
    | true =>
     have HRES : Aside0 (chainR l0 d a1 rs = ([], 11)) := ⟨by
      unfold chainR
      rw [if_pos (busy_yes (i := k) (by rw [Hm.out]; exact hlt) (by rw [← HXD.out, Hks.out]; exact (hasK_iff HIB.out _).1 Hb.out))]⟩
     go_wp2
     go_ret2
     rw [HRES.out]
     exact ⟨_, rfl, Kd.R_nil _ _ _ _ _, HB.out⟩
    | false =>
     have HNO : Aside0 (∀ j, j < k + 1 → (⟨d.f0, d.f1 + (j : Int)⟩ : Dot) ∉ ks) := ⟨fun j hj => by
      rcases Nat.lt_succ_iff_lt_or_eq.1 hj with h | h
      ·
       exact HNO.out j h
      ·
       subst h
       rw [← HXD.out]
       intro h
       have := (hasK_iff HIB.out _).2 h
       rw [Hb.out] at this
       cases this⟩
     obtain ⟨out, Hout⟩ : ∃ out, Aside0 ((List.range k).map (nodeE d p0 last rs) = out) := ⟨_, ⟨rfl⟩⟩
     have HOL : Aside0 (out.length = k) := ⟨by rw [← Hout.out, List.length_map, List.length_range]⟩
     have HOS : Aside0 ((List.range (k + 1)).map (nodeE d p0 last rs) = out ++ [x]) := ⟨by rw [List.range_succ, List.map_append, Hout.out, List.map_cons, List.map_nil, HXE.out]⟩
     have HPS : Aside0 (parE d p0 (k + 1) = x.f0) := ⟨HXD.out.symm⟩
     rw [Hout.out] at HO
     go_wp2_with fail
     refine AnyOrder.wp_region (by kernel_rfl) (ch13Inv w al Ao m c1 k co gd gp gx B last d p x out _ _ _ _ _ _ _ _ _ _ _ _ _ _ _ _ _ _ _ _ _ _ _ _ _ _ _ _ _ _ _ _ _ _ _ _ _ _ _ _ _ _ _ _ _ _ _ _ _ _ _ _ _ _ _ _ _ _ _) ⟨false, false, false, false, false, false, false, false, 0, undef, rfl, rfl, ⟨⟨fun h => (by cases h), fun h => (by cases h), below_more HB.out (below_drew1 (Below.refl _ V4)), Nat.le_trans HSZ.out (below_drew1 (Below.refl V4.heap.size V4)).size, fun _ => RN.below' HO.out (below_drew1 (Below.refl _ V4)), fun h _ => (by cases h), fun h => (by cases h), blk_drew HX.out, blk_drew HDC.out, fun _ => blk_drew HPC.out, fun h => (by cases h)⟩⟩⟩ ?step ?last
     case step =>
      rintro L ac V i ⟨l0, l1, l2, l3, l4, l5, l6, l7, g, v2, rfl, rfl, HF⟩ hi K hK
      have h1 : i = 0 ∨ i = 1 ∨ i = 2 ∨ i = 3 ∨ i = 4 ∨ i = 5 ∨ i = 6 ∨ i = 7 := by
       have h1 := (AnyOrder.mem_ready hi).1
       clear hi hK
       change i < 8 at h1
       omega
      rcases h1 with rfl | rfl | rfl | rfl | rfl | rfl | rfl | rfl
      ·
       obtain rfl : l0 = false := (AnyOrder.mem_ready hi).2.1
       clear hi
       obtain rfl : l6 = false := by cases l6 with | false => rfl | true => cases (HF.out.ord6 rfl).2
       (try simp only [selv_false] at hK ⊢)
       refine AnyOrder.wpOp_go rfl (by rfl) ?_
       go_wp2_with fail
       exact ⟨true, l1, l2, l3, l4, l5, false, l7, g, v2, rfl, rfl, ⟨⟨HF.out.ord3, fun h => (by cases h), HF.out.below, HF.out.size, HF.out.r1, HF.out.bx, HF.out.r2, HF.out.bn, HF.out.bd, HF.out.bp, HF.out.bq⟩⟩⟩
      ·
       obtain rfl : l1 = false := (AnyOrder.mem_ready hi).2.1
       clear hi
       obtain ⟨q0, q1, q2, q3, q4, q5⟩ := box_six HF.out.bn
       refine AnyOrder.wpOp_go rfl (by rfl) ?_
       go_wp2_with fail
       exact ⟨l0, true, l2, l3, l4, l5, l6, l7, g, v2, rfl, rfl, HF⟩
      ·
       obtain rfl : l2 = false := (AnyOrder.mem_ready hi).2.1
       obtain rfl : l1 = true := AnyOrder.dep (q := 0) hi rfl rfl rfl
       clear hi
       simp only [sel_true, selv_true] at hK ⊢
       obtain rfl : l3 = false := by cases l3 with | false => rfl | true => cases HF.out.ord3 rfl
       obtain rfl : l6 = false := by cases l6 with | false => rfl | true => cases (HF.out.ord6 rfl).1
       have hb1 := below_alloc (Below.refl _ V) (boxN x)
       (try simp only [selv_false] at hK ⊢)
       refine AnyOrder.wpOp_go rfl (by rfl) ?_
       go_wp2_with fail
       exact ⟨l0, true, true, false, l4, l5, false, l7, V.heap.size, v2, rfl, rfl, ⟨⟨fun h => (by cases h), fun h => (by cases h), below_more HF.out.below hb1, Nat.le_trans HF.out.size hb1.size, fun _ => RN.below' (HF.out.r1 rfl) hb1, fun _ _ => blk_new _ _, fun h => (by cases h), blk_keep HF.out.bn hb1, blk_keep HF.out.bd hb1, fun h => blk_keep (HF.out.bp h) hb1, fun h => blk_keep (HF.out.bq h) hb1⟩⟩⟩
      ·
       obtain rfl : l3 = false := (AnyOrder.mem_ready hi).2.1
       obtain rfl : l0 = true := AnyOrder.dep (q := 0) hi rfl rfl rfl
       obtain rfl : l2 = true := AnyOrder.dep (q := 1) hi rfl rfl rfl
       clear hi
       simp only [sel_true, selv_true] at hK ⊢
       obtain rfl : l6 = false := by cases l6 with | false => rfl | true => cases (HF.out.ord6 rfl).1
       have hr1 := HF.out.r1 rfl
       (try simp only [selv_false] at hK ⊢)
       refine AnyOrder.wpOp_go rfl (by rfl) ?_
       refine op_append_rows Tryz.underlying23 B rfl (.tmp 59) (.tmp 61) rfl (.slice Ao k co) out [x] (some ⟨g, 0, none⟩) 1 1 rfl rfl hr1 (boxN_C (HF.out.bx rfl rfl)) HF.out.size (by have := HOL.out; have := HKM.out; omega) ?_
       intro v3 W3 h1 h2 _
       have far : ∀ {q : Nat} {o : Obj}, V.heap[q]? = some o → ((Value.slice Ao k co).ownBlock = some q → False) → W3.heap[q]? = some o := fun hq hn => (h2.block _ (blk_lt hq) (fun e => hn e.symm)).trans hq
       exact hK _ _ ⟨true, l1, true, true, l4, l5, false, l7, g, v3, rfl, rfl, ⟨⟨fun _ => rfl, fun h => (by cases h), HF.out.below.grown h2 HF.out.below.size (fun q e => Nat.le_trans HWB.out.2 (RN.block hr1 e).1), Nat.le_trans HF.out.size h2.size, fun h => (by cases h), fun _ => fun h => (by cases h), fun _ => h1, far HF.out.bn (fun e => HNE.out _ e rfl), far HF.out.bd (fun e => absurd (RN.block hr1 e).1 (by have := HGP.out; omega)), fun h => far (HF.out.bp h) (fun e => absurd (RN.block hr1 e).1 (by have := HGP.out; omega)), fun h => far (HF.out.bq h) (fun e => absurd (RN.block hr1 e).1 (by have := HGP.out; omega))⟩⟩⟩
      ·
       obtain rfl : l4 = false := (AnyOrder.mem_ready hi).2.1
       clear hi
       refine AnyOrder.wpOp_go rfl (by rfl) ?_
       go_wp2_with fail
       exact ⟨l0, l1, l2, l3, true, l5, l6, l7, g, v2, rfl, rfl, HF⟩
      ·
       obtain rfl : l5 = false := (AnyOrder.mem_ready hi).2.1
       obtain rfl : l4 = true := AnyOrder.dep (q := 0) hi rfl rfl rfl
       clear hi
       simp only [sel_true, selv_true] at hK ⊢
       obtain ⟨q0, q1, q2, q3, q4, q5⟩ := box_six HF.out.bn
       refine AnyOrder.wpOp_go rfl (by rfl) ?_
       go_wp2_with fail
       exact ⟨l0, l1, l2, l3, true, true, l6, l7, g, v2, rfl, rfl, HF⟩
      ·
       obtain rfl : l6 = false := (AnyOrder.mem_ready hi).2.1
       obtain rfl : l3 = true := AnyOrder.dep (q := 0) hi rfl rfl rfl
       obtain rfl : l0 = true := AnyOrder.dep (q := 2) hi rfl rfl rfl
       obtain rfl : l1 = true := AnyOrder.dep (q := 3) hi rfl rfl rfl
       obtain rfl : l2 = true := AnyOrder.dep (q := 4) hi rfl rfl rfl
       clear hi
       simp only [sel_true, selv_true] at hK ⊢
       refine AnyOrder.wpOp_go rfl (by rfl) ?_
       go_wp2_with fail
       exact ⟨true, true, true, true, l4, l5, true, l7, g, v2, rfl, rfl, ⟨⟨HF.out.ord3, fun _ => ⟨rfl, rfl⟩, HF.out.below, HF.out.size, HF.out.r1, HF.out.bx, HF.out.r2, HF.out.bn, HF.out.bd, HF.out.bp, HF.out.bq⟩⟩⟩
      ·
       obtain rfl : l7 = false := (AnyOrder.mem_ready hi).2.1
       obtain rfl : l5 = true := AnyOrder.dep (q := 0) hi rfl rfl rfl
       obtain rfl : l6 = true := AnyOrder.dep (q := 1) hi rfl rfl rfl
       obtain rfl : l0 = true := AnyOrder.dep (q := 2) hi rfl rfl rfl
       obtain rfl : l1 = true := AnyOrder.dep (q := 3) hi rfl rfl rfl
       obtain rfl : l2 = true := AnyOrder.dep (q := 4) hi rfl rfl rfl
       obtain rfl : l3 = true := AnyOrder.dep (q := 5) hi rfl rfl rfl
       obtain rfl : l4 = true := AnyOrder.dep (q := 6) hi rfl rfl rfl
       clear hi
       simp only [sel_true, selv_true] at hK ⊢
       refine AnyOrder.wpOp_go rfl (by rfl) ?_
       refine op_boxDot (.tmp 10) (.tmp 64) rfl rfl (HF.out.bp rfl) x.f0 rfl rfl ?_
       intro W4 h1 h2
       have far : ∀ {q : Nat} {o : Obj}, V.heap[q]? = some o → q ≠ gp → W4.heap[q]? = some o := fun hq hn => (h2.block _ (blk_lt hq) (fun e => hn (Option.some.inj e))).trans hq
       exact hK _ _ ⟨true, true, true, true, true, true, true, true, g, v2, rfl, rfl, ⟨⟨HF.out.ord3, HF.out.ord6, HF.out.below.grown h2 HF.out.below.size (fun q e => by cases e; exact HWB.out.1), Nat.le_trans HF.out.size h2.size, fun h => (by cases h), fun _ => fun h => (by cases h), fun _ => RN.keep (HF.out.r2 rfl) (fun q hq => h2.block q (RN.lt (HF.out.r2 rfl) hq) (fun e => absurd (RN.block (HF.out.r2 rfl) hq).1 (by have := HGP.out; have := Option.some.inj e; omega))), far HF.out.bn (by have := HGX.out; have := HGP.out; omega), far HF.out.bd (by have := HGP.out; omega), fun h => (by cases h), fun _ => h1⟩⟩⟩
     case last =>
      rintro L ac V ⟨l0, l1, l2, l3, l4, l5, l6, l7, g, v2, rfl, rfl, HF⟩ hr
      have hall := AnyOrder.all_listed rfl (by kernel_rfl) hr
      clear hr
      obtain rfl : l0 = true := hall 0 (by decide)
      obtain rfl : l1 = true := hall 1 (by decide)
      obtain rfl : l2 = true := hall 2 (by decide)
      obtain rfl : l3 = true := hall 3 (by decide)
      obtain rfl : l4 = true := hall 4 (by decide)
      obtain rfl : l5 = true := hall 5 (by decide)
      obtain rfl : l6 = true := hall 6 (by decide)
      obtain rfl : l7 = true := hall 7 (by decide)
      clear hall
      simp only [sel_true, selv_true]
      have HB := Aside0.mk HF.out.below
      have HO := Aside0.mk (HF.out.r2 rfl)
      have HDC := Aside0.mk HF.out.bd
      have HPC : Aside0 (V.heap[gp]? = some (dotC (parE d p0 (k + 1)))) := ⟨by rw [HPS.out]; exact HF.out.bq rfl⟩
      have HSZ := Aside0.mk HF.out.size
      obtain ⟨A3, c3, rfl⟩ := RN.slice HO.out
      have HL3 : Aside0 ((out ++ [x]).length = k + 1) := ⟨by rw [List.length_append, HOL.out]; rfl⟩
      rw [HL3.out] at HO ⊢
      rw [← HOS.out] at HO
      have hkm := HKM.out
      clear HF
      go_wp2
      go_roundw
      case rel => exact ⟨k + 1, A3, c3, rfl, by go_num, by omega, HNO, HO, HDC, HPC, HB, HSZ⟩
      case measure => simp [intOf]; omega
  ·
   obtain rfl : k = m := by omega
   have HRES : Aside0 (chainR l0 d a1 rs = ((List.range k).map (nodeE d p0 last rs), 0)) := ⟨by
    unfold chainR
    rw [Hm.out, if_neg (by rw [busy_no (by rw [Hks.out]; exact HNO.out)]; decide), Hp0.out, Hla.out]
    unfold chainE
    rw [Hm.out]⟩
   go_wp2
   go_ret2
   rw [HRES.out]
   exact ⟨_, rfl, Kd.R_lower HO.out HWB.out.2, HB.out⟩
end Go.Proofs.YtmbndijbpgobeaaGreat.PWalk
end
section
namespace Go.Proofs.YtmbndijbpgobeaaGreat.PWalk
open Go.RowKit Go.Proofs.YtmbndijbpgobeaaGreatW.PrintWords Go.Proofs.YtmbndijbpgobeaaGreatW.PrintLast Go.Proofs.YtmbndijbpgobeaaGreatW.PrintMore
set_option linter.unusedVariables false
set_option linter.unusedSimpArgs false
open Go.Shelf
attribute [local go_sem] Oper.semAt_some
theorem badRune2_call (r : Int) (W : World) : Calls Tryz.prog 49 #[.int .i32 r] W fun e W' => e = .returned (.bool (!runeOk r)) ∧ Below W.heap.size W W' := by
 go_enter Tryz.func49, Tryz.ntmps49
 go_wp2_with fail
 refine (runes_Valid.calls 10 r (runeOk r) W (runesValid_is 9 r)).mono ?_
 rintro e W' ⟨rfl, hd⟩
 have HB := Aside0.mk (hd.below)
 clear hd
 go_wp2
 go_ret
 exact ⟨rfl, HB.out⟩
def wellB (l : List Node) : Bool := (faultsOf l).isEmpty
def lateE (l : List Node) : Int := if storeOk l = true then lastOf l else 0
/-- The first error of a replacement. -/
def errE (l : List Node) (d : Dot) (a n : Int) (rs : List Int) : Int :=
 firstE [if (!wellB l || !dotOk d) = true then 2 else 0, spanE l a n, if (decide (n > 10000) || decide ((rs.length : Int) > 10000)) = true then 5 else 0, if (rs.any fun r => !runeOk r) = true then 13 else 0,
  if (decide (d.f1 > wrap64 (wrap64 (4294967295 - (rs.length : Int)) + 1)) || decide (lateE l > wrap64 (4611686018427387904 - (rs.length : Int)))) = true then 14 else 0]
/-- What a replacement answers. -/
def replR (l : List Node) (d : Dot) (a n : Int) (rs : List Int) : List Node × Int :=
 if errE l d a n rs ≠ 0 then ([], errE l d a n rs) else if (chainR l d a rs).2 ≠ 0 then ([], (chainR l d a rs).2) else joinR (delE l a n).1 (chainR l d a rs).1
def edit_Replace.f (l0 : List Node) (a1_0 a1_1 a2 a3 : Int) (l4 : List Int) : Option (List Node × Int) := if l0.length ≤ 300000 ∧ l4.length ≤ 20000 then some (replR l0 ⟨a1_0, a1_1⟩ a2 a3 l4) else none
theorem firstE_zero {a b c d e : Int} (h : firstE [a, b, c, d, e] = 0) : a = 0 ∧ b = 0 ∧ c = 0 ∧ d = 0 ∧ e = 0 := by
 simp only [firstE] at h
 by_cases h1 : a = 0
 ·
  rw [if_pos h1] at h
  by_cases h2 : b = 0
  ·
   rw [if_pos h2] at h
   by_cases h3 : c = 0
   ·
    rw [if_pos h3] at h
    by_cases h4 : d = 0
    ·
     rw [if_pos h4] at h
     by_cases h5 : e = 0
     ·
      exact ⟨h1, h2, h3, h4, h5⟩
     ·
      rw [if_neg h5] at h; exact absurd h h5
    ·
     rw [if_neg h4] at h; exact absurd h h4
   ·
    rw [if_neg h3] at h; exact absurd h h3
  ·
   rw [if_neg h2] at h; exact absurd h h2
 ·
  rw [if_neg h1] at h; exact absurd h h1
theorem ite_zero {p : Bool} {v : Int} (hv : v ≠ 0) (h : (if p = true then v else 0) = 0) : p = false := by
 cases p with
 | false => rfl
 | true => exact absurd h hv
theorem err_zero {l : List Node} {d : Dot} {a n : Int} {rs : List Int} (hrs : rs.length ≤ 20000) (h : errE l d a n rs = 0) :
  faultsOf l = [] ∧ dotOk d = true ∧ spanE l a n = 0 ∧ ¬ n > 10000 ∧ rs.length ≤ 10000 ∧ (∀ r ∈ rs, runeOk r = true) ∧ d.f1 + (rs.length : Int) ≤ 4294967296 ∧ lastOf l + (rs.length : Int) ≤ 4611686018427387904 := by
 obtain ⟨h1, h2, h3, h4, h5⟩ := firstE_zero h
 have g1 := ite_zero (by decide) h1
 have g3 := ite_zero (by decide) h3
 have g4 := ite_zero (by decide) h4
 have g5 := ite_zero (by decide) h5
 rw [Bool.or_eq_false_iff] at g1 g3 g5
 have hw : faultsOf l = [] := by
  have := g1.1
  unfold wellB at this
  rw [Bool.not_eq_false'] at this
  exact List.isEmpty_iff.1 this
 have e1 : wrap64 (wrap64 (4294967295 - (rs.length : Int)) + 1) = 4294967296 - (rs.length : Int) := by unfold wrap64; omega
 have e2 : wrap64 (4611686018427387904 - (rs.length : Int)) = 4611686018427387904 - (rs.length : Int) := by unfold wrap64; omega
 have k1 := of_decide_eq_false g5.1
 have k2 := of_decide_eq_false g5.2
 rw [e1] at k1
 rw [e2] at k2
 unfold lateE at k2
 rw [if_pos (well_store hw)] at k2
 refine ⟨hw, by have := g1.2; rwa [Bool.not_eq_false'] at this, h2, of_decide_eq_false g3.1, by have := of_decide_eq_false g3.2; omega, fun r hr => ?_, by omega, by omega⟩
 have := List.any_eq_false.1 g4 r hr
 simpa using this
theorem mx_le (a b : Int) : a ≤ mx a b ∧ b ≤ mx a b := by
 unfold mx
 split <;> constructor <;> omega
theorem last_ge : ∀ (l : List Node) (t : Int), t ≤ l.foldl (fun t x => mx t x.f2) t
 | [], t => Int.le_refl _
 | x :: l, t => Int.le_trans (mx_le t x.f2).1 (last_ge l _)
set_option maxHeartbeats 4000000 in
set_option maxRecDepth 100000 in
theorem edit_Replace.calls (A0 : Option Addr) (c0 : Nat) (l0 : List Node) (a1_0 a1_1 a2 a3 : Int) (A4 : Option Addr) (c4 : Nat) (l4 : List Int) (r1 : List Node) (r2 : Int) (w : World) (hr0 : Kd.C k53 w A0 l0.length l0) (hc0 : l0.length ≤ c0) (hr4 : Kd.C (Kd.int .i32) w A4 l4.length l4) (hc4 : l4.length ≤ c4) (h : edit_Replace.f l0 a1_0 a1_1 a2 a3 l4 = some (r1, r2)) :
  Calls Tryz.prog 22 #[.slice A0 l0.length c0, .agg #[.int .i64 a1_0, .int .i64 a1_1], .int .i64 a2, .int .i64 a3, .slice A4 l4.length c4] w fun e w' => ∃ v0_ : Value, e = .returned (.tuple #[v0_, .int .i64 r2]) ∧ Kd.R k53 53 w' w.heap.size (fun _ => True) v0_ r1 ∧ Below w.heap.size w w' := by
 unfold edit_Replace.f at h
 by_cases hl : l0.length ≤ 300000 ∧ l4.length ≤ 20000
 rotate_left
 ·
  rw [if_neg hl] at h; cases h
 rw [if_pos hl] at h
 obtain ⟨d, hd⟩ : ∃ d : Dot, d = ⟨a1_0, a1_1⟩ := ⟨_, rfl⟩
 rw [← hd] at h
 rw [show a1_0 = d.f0 by rw [hd], show a1_1 = d.f1 by rw [hd]]
 clear hd
 have HRES := Aside0.mk (Option.some.inj h)
 have HL := Aside0.mk hl
 have HR := Aside0.mk hr0
 have HC := Aside0.mk hc0
 have HR4 := Aside0.mk hr4
 have HC4 := Aside0.mk hc4
 obtain ⟨n, Hn⟩ : ∃ n, Aside0 (l0.length = n) := ⟨_, ⟨rfl⟩⟩
 obtain ⟨m, Hm⟩ : ∃ m, Aside0 (l4.length = m) := ⟨_, ⟨rfl⟩⟩
 obtain ⟨b, Hb⟩ : ∃ b, Aside0 (wellB l0 = b) := ⟨_, ⟨rfl⟩⟩
 obtain ⟨dv, Hdv⟩ : ∃ b, Aside0 (dotOk d = b) := ⟨_, ⟨rfl⟩⟩
 obtain ⟨sp, Hsp⟩ : ∃ s, Aside0 (spanE l0 a2 a3 = s) := ⟨_, ⟨rfl⟩⟩
 obtain ⟨bn, Hbn⟩ : ∃ b, Aside0 (decide (a3 > 10000) = b) := ⟨_, ⟨rfl⟩⟩
 obtain ⟨odd, Hod⟩ : ∃ b, Aside0 ((l4.any fun r => !runeOk r) = b) := ⟨_, ⟨rfl⟩⟩
 obtain ⟨cnt, Hcn⟩ : ∃ b, Aside0 (decide (d.f1 > wrap64 (wrap64 (4294967295 - (m : Int)) + 1)) = b) := ⟨_, ⟨rfl⟩⟩
 obtain ⟨late, Hlt⟩ : ∃ t, Aside0 (lateE l0 = t) := ⟨_, ⟨rfl⟩⟩
 obtain ⟨w1, Hw1⟩ : ∃ q : Int, Aside0 ((if (!b || !dv) = true then 2 else 0) = q) := ⟨_, ⟨rfl⟩⟩
 obtain ⟨w3, Hw3⟩ : ∃ q : Int, Aside0 ((if (bn || decide ((m : Int) > 10000)) = true then 5 else 0) = q) := ⟨_, ⟨rfl⟩⟩
 obtain ⟨w4, Hw4⟩ : ∃ q : Int, Aside0 ((if odd = true then 13 else 0) = q) := ⟨_, ⟨rfl⟩⟩
 obtain ⟨w5, Hw5⟩ : ∃ q : Int, Aside0 ((if (cnt || decide (late > wrap64 (4611686018427387904 - (m : Int)))) = true then 14 else 0) = q) := ⟨_, ⟨rfl⟩⟩
 obtain ⟨er, Her⟩ : ∃ q : Int, Aside0 (firstE [w1, sp, w3, w4, w5] = q) := ⟨_, ⟨rfl⟩⟩
 have HERR : Aside0 (errE l0 d a2 a3 l4 = er) := ⟨by
  unfold errE
  rw [Hm.out, Hb.out, Hdv.out, Hsp.out, Hbn.out, Hod.out, Hcn.out, Hlt.out, Hw1.out, Hw3.out, Hw4.out, Hw5.out, Her.out]⟩
 have HWELL : Aside0 (∀ W, Below w.heap.size w W → Calls Tryz.prog 51 #[.slice A0 n c0] W fun e w' => e = .returned (.bool b) ∧ Below W.heap.size W w') := ⟨fun W hb => by
  rw [← Hn.out]
  refine shape_Well.calls A0 c0 l0 b W (Kd.C_below hr0 hb) hc0 ?_
  have hbo := Hb.out
  unfold wellB at hbo
  cases hb2 : b with
  | true => rw [hb2] at hbo; exact well_yes (by omega) (List.isEmpty_iff.1 hbo)
  | false => rw [hb2] at hbo; exact well_no (by omega) fun h => by rw [h] at hbo; cases hbo⟩
 have HSPAN : Aside0 (∀ W, Below w.heap.size w W → Calls Tryz.prog 41 #[.slice A0 n c0, .int .i64 a2, .int .i64 a3] W fun e w' => e = .returned (.int .i64 sp) ∧ Below W.heap.size W w') := ⟨fun W hb => by
  rw [← Hn.out]
  exact edit_span.calls 3 A0 c0 l0 a2 a3 sp W (Kd.C_below hr0 hb) hc0 (by rw [span_is (by omega) a2 a3 (Nat.le_refl 3), Hsp.out])⟩
 have HLATE : Aside0 (∀ W, Below w.heap.size w W → Calls Tryz.prog 23 #[.slice A0 n c0] W fun e w' => e = .returned (.int .i64 late) ∧ Below W.heap.size W w') := ⟨fun W hb => by
  rw [← Hn.out]
  exact edit_Latest.calls (l0.length + 1) A0 c0 l0 late W (Kd.C_below hr0 hb) hc0 (by rw [latest_is (by omega) (by omega)]; exact congrArg some Hlt.out)⟩
 have HDC := Aside0.mk (blk_new w (dotC d))
 have HB := Aside0.mk (below_alloc (Below.refl _ w) (dotC d))
 have hcall := ContainsFuncRune.calls (fun r => !runeOk r) 49 A4 c4 l4 (w.alloc (dotC d)) (Kd.C_below hr4 HB.out) hc4 (enters_of Tryz.func49 (by kernel_rfl) rfl) badRune2_call
 rw [Hm.out, Hod.out] at hcall
 rw [Hn.out, Hm.out]
 have HCALL := Aside0.mk hcall
 have hu2 := Tryz.underlying25
 clear hcall h hl hr0 hc0 hr4 hc4
 go_enter Tryz.func22, Tryz.ntmps22
 go_wp2_with fail
 refine HCALL.out.mono ?_
 rintro e V1 ⟨rfl, hb⟩
 have HDC := Aside0.mk (blk_keep HDC.out hb)
 have HB := Aside0.mk (below_more HB.out hb)
 have hc1 : decide (d.f1 > wrap64 (wrap64 (4294967295 - (m : Int)) + 1)) = cnt := Hcn.out
 have hc2 : decide (wrap64 (wrap64 (4294967295 - (m : Int)) + 1) < d.f1) = cnt := Hcn.out
 obtain ⟨x0, x1⟩ := dot_cells HDC.out
 clear hb HCALL
 go_wp2_with fail
 clear x0 x1 hc1 hc2
 refine (HWELL.out V1 HB.out).mono ?_
 rintro e V2 ⟨rfl, hb⟩
 have HDC := Aside0.mk (blk_keep HDC.out hb)
 have HB := Aside0.mk (below_more HB.out hb)
 clear hb HWELL
 cases b
 ·
  go_wp2_with fail
  refine (edit_when.calls true 2 w1 V2 (by rw [ewhen_is]; exact congrArg some Hw1.out)).mono ?_
  rintro e V3 ⟨rfl, hd⟩
  have HDC := Aside0.mk (blk_keep HDC.out (Gr.drawn hd).below)
  have HB := Aside0.mk (below_more HB.out (Gr.drawn hd).below)
  clear hd
  go_wp2_with fail
  refine (HSPAN.out V3 HB.out).mono ?_
  rintro e V4 ⟨rfl, hb⟩
  have HDC := Aside0.mk (blk_keep HDC.out hb)
  have HB := Aside0.mk (below_more HB.out hb)
  clear hb
  have hb1 : decide (a3 > 10000) = bn := Hbn.out
  have hb2 : decide (10000 < a3) = bn := Hbn.out
  cases bn
  ·
   go_wp2_with fail
   refine (edit_when.calls (decide ((m : Int) > 10000)) 5 w3 V4 (by rw [ewhen_is]; exact congrArg some Hw3.out)).mono ?_
   rintro e V5 ⟨rfl, hd⟩
   have HDC := Aside0.mk (blk_keep HDC.out (Gr.drawn hd).below)
   have HB := Aside0.mk (below_more HB.out (Gr.drawn hd).below)
   clear hd
   go_wp2_with fail
   refine (edit_when.calls odd 13 w4 V5 (by rw [ewhen_is]; exact congrArg some Hw4.out)).mono ?_
   rintro e V6 ⟨rfl, hd⟩
   have HDC := Aside0.mk (blk_keep HDC.out (Gr.drawn hd).below)
   have HB := Aside0.mk (below_more HB.out (Gr.drawn hd).below)
   clear hd
   cases cnt
   ·
    go_wp2_with fail
    refine (HLATE.out V6 HB.out).mono ?_
    rintro e V7 ⟨rfl, hb⟩
    have HDC := Aside0.mk (blk_keep HDC.out hb)
    have HB := Aside0.mk (below_more HB.out hb)
    clear hb
    have hb1 : decide (late > wrap64 (4611686018427387904 - (m : Int))) = decide (wrap64 (4611686018427387904 - (m : Int)) < late) := rfl
    go_wp2_with fail
    clear hb1
    refine (edit_when.calls (decide (late > wrap64 (4611686018427387904 - (m : Int)))) 14 w5 V7 (by rw [ewhen_is]; exact congrArg some Hw5.out)).mono ?_
    rintro e V8 ⟨rfl, hd⟩
    have HDC := Aside0.mk (blk_keep HDC.out (Gr.drawn hd).below)
    have HB := Aside0.mk (below_more HB.out (Gr.drawn hd).below)
    clear hd
    go_wp2_with fail
    refine (edit_first.calls 6 _ 5 [w1, sp, w3, w4, w5] er _ (intRow_C [w1, sp, w3, w4, w5] _ rfl (blk_new _ _) (by simp)) (Nat.le_refl _) (by rw [efirst_is _ (by simp) (by show 5 < 6; omega), Her.out])).mono ?_
    rintro e V9 ⟨rfl, hd⟩
    have hbb := below_more (below_alloc (Below.refl V8.heap.size V8) _) (Gr.drawn hd).below
    have HDC := Aside0.mk (blk_keep HDC.out hbb)
    have HB := Aside0.mk (below_more HB.out hbb)
    clear hd hbb
    have he : er ≠ 0 := fun h => by
     have hz := firstE_zero (Her.out.trans h)
     have := Hw1.out
     rw [hz.1] at this
     exact absurd (ite_zero (by decide) this) (by simp)
    have hne : (er == 0) = false := beq_eq_false_iff_ne.2 he
    have HNE := Aside0.mk he
    clear he
    go_wp2
    go_ret2
    have h := HRES.out
    unfold replR at h
    rw [HERR.out, if_pos HNE.out] at h
    cases h
    exact ⟨_, rfl, Kd.R_nil _ _ _ _ _, HB.out⟩
   ·
    go_wp2_with fail
    generalize V6 = V7 at *
    refine (edit_when.calls true 14 w5 V7 (by rw [ewhen_is]; exact congrArg some Hw5.out)).mono ?_
    rintro e V8 ⟨rfl, hd⟩
    have HDC := Aside0.mk (blk_keep HDC.out (Gr.drawn hd).below)
    have HB := Aside0.mk (below_more HB.out (Gr.drawn hd).below)
    clear hd
    go_wp2_with fail
    refine (edit_first.calls 6 _ 5 [w1, sp, w3, w4, w5] er _ (intRow_C [w1, sp, w3, w4, w5] _ rfl (blk_new _ _) (by simp)) (Nat.le_refl _) (by rw [efirst_is _ (by simp) (by show 5 < 6; omega), Her.out])).mono ?_
    rintro e V9 ⟨rfl, hd⟩
    have hbb := below_more (below_alloc (Below.refl V8.heap.size V8) _) (Gr.drawn hd).below
    have HDC := Aside0.mk (blk_keep HDC.out hbb)
    have HB := Aside0.mk (below_more HB.out hbb)
    clear hd hbb
    have he : er ≠ 0 := fun h => by
     have hz := firstE_zero (Her.out.trans h)
     have := Hw1.out
     rw [hz.1] at this
     exact absurd (ite_zero (by decide) this) (by simp)
    have hne : (er == 0) = false := beq_eq_false_iff_ne.2 he
    have HNE := Aside0.mk he
    clear he
    go_wp2
    go_ret2
    have h := HRES.out
    unfold replR at h
    rw [HERR.out, if_pos HNE.out] at h
    cases h
    exact ⟨_, rfl, Kd.R_nil _ _ _ _ _, HB.out⟩
  ·
   go_wp2_with fail
   refine (edit_when.calls true 5 w3 V4 (by rw [ewhen_is]; exact congrArg some Hw3.out)).mono ?_
   rintro e V5 ⟨rfl, hd⟩
   have HDC := Aside0.mk (blk_keep HDC.out (Gr.drawn hd).below)
   have HB := Aside0.mk (below_more HB.out (Gr.drawn hd).below)
   clear hd
   go_wp2_with fail
   refine (edit_when.calls odd 13 w4 V5 (by rw [ewhen_is]; exact congrArg some Hw4.out)).mono ?_
   rintro e V6 ⟨rfl, hd⟩
   have HDC := Aside0.mk (blk_keep HDC.out (Gr.drawn hd).below)
   have HB := Aside0.mk (below_more HB.out (Gr.drawn hd).below)
   clear hd
   cases cnt
   ·
    go_wp2_with fail
    refine (HLATE.out V6 HB.out).mono ?_
    rintro e V7 ⟨rfl, hb⟩
    have HDC := Aside0.mk (blk_keep HDC.out hb)
    have HB := Aside0.mk (below_more HB.out hb)
    clear hb
    have hb1 : decide (late > wrap64 (4611686018427387904 - (m : Int))) = decide (wrap64 (4611686018427387904 - (m : Int)) < late) := rfl
    go_wp2_with fail
    clear hb1
    refine (edit_when.calls (decide (late > wrap64 (4611686018427387904 - (m : Int)))) 14 w5 V7 (by rw [ewhen_is]; exact congrArg some Hw5.out)).mono ?_
    rintro e V8 ⟨rfl, hd⟩
    have HDC := Aside0.mk (blk_keep HDC.out (Gr.drawn hd).below)
    have HB := Aside0.mk (below_more HB.out (Gr.drawn hd).below)
    clear hd
    go_wp2_with fail
    refine (edit_first.calls 6 _ 5 [w1, sp, w3, w4, w5] er _ (intRow_C [w1, sp, w3, w4, w5] _ rfl (blk_new _ _) (by simp)) (Nat.le_refl _) (by rw [efirst_is _ (by simp) (by show 5 < 6; omega), Her.out])).mono ?_
    rintro e V9 ⟨rfl, hd⟩
    have hbb := below_more (below_alloc (Below.refl V8.heap.size V8) _) (Gr.drawn hd).below
    have HDC := Aside0.mk (blk_keep HDC.out hbb)
    have HB := Aside0.mk (below_more HB.out hbb)
    clear hd hbb
    have he : er ≠ 0 := fun h => by
     have hz := firstE_zero (Her.out.trans h)
     have := Hw1.out
     rw [hz.1] at this
     exact absurd (ite_zero (by decide) this) (by simp)
    have hne : (er == 0) = false := beq_eq_false_iff_ne.2 he
    have HNE := Aside0.mk he
    clear he
    go_wp2
    go_ret2
    have h := HRES.out
    unfold replR at h
    rw [HERR.out, if_pos HNE.out] at h
    cases h
    exact ⟨_, rfl, Kd.R_nil _ _ _ _ _, HB.out⟩
   ·
    go_wp2_with fail
    generalize V6 = V7 at *
    refine (edit_when.calls true 14 w5 V7 (by rw [ewhen_is]; exact congrArg some Hw5.out)).mono ?_
    rintro e V8 ⟨rfl, hd⟩
    have HDC := Aside0.mk (blk_keep HDC.out (Gr.drawn hd).below)
    have HB := Aside0.mk (below_more HB.out (Gr.drawn hd).below)
    clear hd
    go_wp2_with fail
    refine (edit_first.calls 6 _ 5 [w1, sp, w3, w4, w5] er _ (intRow_C [w1, sp, w3, w4, w5] _ rfl (blk_new _ _) (by simp)) (Nat.le_refl _) (by rw [efirst_is _ (by simp) (by show 5 < 6; omega), Her.out])).mono ?_
    rintro e V9 ⟨rfl, hd⟩
    have hbb := below_more (below_alloc (Below.refl V8.heap.size V8) _) (Gr.drawn hd).below
    have HDC := Aside0.mk (blk_keep HDC.out hbb)
    have HB := Aside0.mk (below_more HB.out hbb)
    clear hd hbb
    have he : er ≠ 0 := fun h => by
     have hz := firstE_zero (Her.out.trans h)
     have := Hw1.out
     rw [hz.1] at this
     exact absurd (ite_zero (by decide) this) (by simp)
    have hne : (er == 0) = false := beq_eq_false_iff_ne.2 he
    have HNE := Aside0.mk he
    clear he
    go_wp2
    go_ret2
    have h := HRES.out
    unfold replR at h
    rw [HERR.out, if_pos HNE.out] at h
    cases h
    exact ⟨_, rfl, Kd.R_nil _ _ _ _ _, HB.out⟩
 ·
  obtain ⟨x0, x1⟩ := dot_cells HDC.out
  go_wp2_with fail
  clear x0 x1
  refine (dot_Valid.calls d.f0 d.f1 dv V2 (by rw [dotValid_is, Hdv.out])).mono ?_
  rintro e V21 ⟨rfl, hb⟩
  have HDC := Aside0.mk (blk_keep HDC.out hb)
  have HB := Aside0.mk (below_more HB.out hb)
  clear hb
  go_wp2_with fail
  refine (edit_when.calls (!dv) 2 w1 V21 (by rw [ewhen_is]; exact congrArg some Hw1.out)).mono ?_
  rintro e V3 ⟨rfl, hd⟩
  have HDC := Aside0.mk (blk_keep HDC.out (Gr.drawn hd).below)
  have HB := Aside0.mk (below_more HB.out (Gr.drawn hd).below)
  clear hd
  go_wp2_with fail
  refine (HSPAN.out V3 HB.out).mono ?_
  rintro e V4 ⟨rfl, hb⟩
  have HDC := Aside0.mk (blk_keep HDC.out hb)
  have HB := Aside0.mk (below_more HB.out hb)
  clear hb
  have hb1 : decide (a3 > 10000) = bn := Hbn.out
  have hb2 : decide (10000 < a3) = bn := Hbn.out
  cases bn
  ·
   go_wp2_with fail
   refine (edit_when.calls (decide ((m : Int) > 10000)) 5 w3 V4 (by rw [ewhen_is]; exact congrArg some Hw3.out)).mono ?_
   rintro e V5 ⟨rfl, hd⟩
   have HDC := Aside0.mk (blk_keep HDC.out (Gr.drawn hd).below)
   have HB := Aside0.mk (below_more HB.out (Gr.drawn hd).below)
   clear hd
   go_wp2_with fail
   refine (edit_when.calls odd 13 w4 V5 (by rw [ewhen_is]; exact congrArg some Hw4.out)).mono ?_
   rintro e V6 ⟨rfl, hd⟩
   have HDC := Aside0.mk (blk_keep HDC.out (Gr.drawn hd).below)
   have HB := Aside0.mk (below_more HB.out (Gr.drawn hd).below)
   clear hd
   cases cnt
   ·
    go_wp2_with fail
    refine (HLATE.out V6 HB.out).mono ?_
    rintro e V7 ⟨rfl, hb⟩
    have HDC := Aside0.mk (blk_keep HDC.out hb)
    have HB := Aside0.mk (below_more HB.out hb)
    clear hb
    have hb1 : decide (late > wrap64 (4611686018427387904 - (m : Int))) = decide (wrap64 (4611686018427387904 - (m : Int)) < late) := rfl
    go_wp2_with fail
    clear hb1
    refine (edit_when.calls (decide (late > wrap64 (4611686018427387904 - (m : Int)))) 14 w5 V7 (by rw [ewhen_is]; exact congrArg some Hw5.out)).mono ?_
    rintro e V8 ⟨rfl, hd⟩
    have HDC := Aside0.mk (blk_keep HDC.out (Gr.drawn hd).below)
    have HB := Aside0.mk (below_more HB.out (Gr.drawn hd).below)
    clear hd
    go_wp2_with fail
    refine (edit_first.calls 6 _ 5 [w1, sp, w3, w4, w5] er _ (intRow_C [w1, sp, w3, w4, w5] _ rfl (blk_new _ _) (by simp)) (Nat.le_refl _) (by rw [efirst_is _ (by simp) (by show 5 < 6; omega), Her.out])).mono ?_
    rintro e V9 ⟨rfl, hd⟩
    have hbb := below_more (below_alloc (Below.refl V8.heap.size V8) _) (Gr.drawn hd).below
    have HDC := Aside0.mk (blk_keep HDC.out hbb)
    have HB := Aside0.mk (below_more HB.out hbb)
    clear hd hbb
    by_cases he : er = 0
    rotate_left
    ·
     have hne : (er == 0) = false := beq_eq_false_iff_ne.2 he
     have HNE := Aside0.mk he
     clear he
     go_wp2
     go_ret2
     have h := HRES.out
     unfold replR at h
     rw [HERR.out, if_pos HNE.out] at h
     cases h
     exact ⟨_, rfl, Kd.R_nil _ _ _ _ _, HB.out⟩
    have HZ := Aside0.mk (err_zero (by have := HL.out.2; omega) (HERR.out.trans he))
    have HST := Aside0.mk (well_store HZ.out.1)
    have HS := Aside0.mk (span_zero HZ.out.2.2.1)
    have hcall := chain_call A0 c0 l0 d a2 A4 c4 l4 V9 (Kd.C_below HR.out HB.out) HC.out (Kd.C_below HR4.out HB.out) HC4.out (by have := HL.out; omega) HZ.out.2.2.2.2.1 HST.out ⟨HS.out.2.1, HS.out.2.2.2.1⟩ ⟨by have := HZ.out.2.1; unfold dotOk at this; have := of_decide_eq_true this; omega, HZ.out.2.2.2.2.2.2.1⟩ ⟨last_ge l0 0, HZ.out.2.2.2.2.2.2.2⟩
    obtain ⟨mo, Hmo⟩ : ∃ q, Aside0 ((chainR l0 d a2 l4).1 = q) := ⟨_, ⟨rfl⟩⟩
    obtain ⟨e1, He1⟩ : ∃ q, Aside0 ((chainR l0 d a2 l4).2 = q) := ⟨_, ⟨rfl⟩⟩
    rw [Hmo.out, He1.out, Hn.out, Hm.out] at hcall
    have HCALL := Aside0.mk hcall
    obtain ⟨x0, x1⟩ := dot_cells HDC.out
    have HE0 := Aside0.mk he
    clear hcall he
    rw [HE0.out]
    go_wp2_with fail
    clear x0 x1
    refine HCALL.out.mono ?_
    rintro e U1 ⟨v1, rfl, hr1, hb⟩
    have HB := Aside0.mk (below_more HB.out hb)
    obtain ⟨A1, c1, rfl⟩ := Kd.R_slice hr1
    have HM1 := Aside0.mk (Kd.R_reads' hr1).2
    clear hb HCALL hr1
    by_cases he1 : e1 = 0
    rotate_left
    ·
     have hne : (e1 == 0) = false := beq_eq_false_iff_ne.2 he1
     have HNE := Aside0.mk he1
     clear he1
     go_wp2
     go_ret2
     have h := HRES.out
     unfold replR at h
     rw [HERR.out, if_neg (by rw [HE0.out]; simp), He1.out, if_pos HNE.out] at h
     cases h
     exact ⟨_, rfl, Kd.R_nil _ _ _ _ _, HB.out⟩
    subst he1
    have hmo : mo.length ≤ 10000 := by
     rw [← Hmo.out]
     unfold chainR
     split
     ·
      simp
     ·
      unfold chainE; rw [List.length_map, List.length_range]; exact HZ.out.2.2.2.2.1
    obtain ⟨m1, Hm1⟩ : ∃ q, Aside0 (mo.length = q) := ⟨_, ⟨rfl⟩⟩
    have HMO := Aside0.mk hmo
    rw [Hm1.out] at HM1 ⊢
    obtain ⟨go, Hgo⟩ : ∃ q, Aside0 ((delE l0 a2 a3).1 = q) := ⟨_, ⟨rfl⟩⟩
    have HDEL : Aside0 (delE l0 a2 a3 = (go, 0)) := ⟨by rw [← Hgo.out, del_some HZ.out.2.2.1 (by have := HZ.out.2.2.2.1; omega)]⟩
    have HGL : Aside0 (go.length ≤ 300000) := ⟨by
     rw [← Hgo.out, del_some HZ.out.2.2.1 (by have := HZ.out.2.2.2.1; omega), List.length_map]
     exact Nat.le_trans (List.length_filter_le _ _) HL.out.1⟩
    have hcall := edit_Delete.calls A0 c0 l0 a2 a3 go 0 U1 (Kd.C_below HR.out HB.out) HC.out (by unfold edit_Delete.f; rw [if_pos (by have := HL.out; omega), HDEL.out])
    rw [Hn.out] at hcall
    have HCALL := Aside0.mk hcall
    clear hcall hmo
    go_wp2_with fail
    refine HCALL.out.mono ?_
    rintro e U2 ⟨v2, rfl, hr2, hb⟩
    have HB := Aside0.mk (below_more HB.out hb)
    have HM1 := Aside0.mk (show m1 ≤ c1 ∧ Kd.C k53 U2 A1 m1 mo from ⟨HM1.out.1, Kd.C_below HM1.out.2 hb⟩)
    obtain ⟨A2, c2, rfl⟩ := Kd.R_slice hr2
    have HM2 := Aside0.mk (Kd.R_reads' hr2).2
    obtain ⟨m2, Hm2⟩ : ∃ q, Aside0 (go.length = q) := ⟨_, ⟨rfl⟩⟩
    rw [Hm2.out] at HM2 ⊢
    have HJR : Aside0 (joinR go mo = (r1, r2)) := ⟨by
     have h := HRES.out
     unfold replR at h
     rwa [HERR.out, if_neg (by rw [HE0.out]; simp), He1.out, if_neg (by simp), Hgo.out, Hmo.out] at h⟩
    have hcall := join_Join.calls A2 c2 go A1 c1 mo r1 r2 U2 (by rw [Hm2.out]; exact HM2.out.2) (by rw [Hm2.out]; exact HM2.out.1) (by rw [Hm1.out]; exact HM1.out.2) (by rw [Hm1.out]; exact HM1.out.1) (by unfold join_Join.f; rw [if_pos (by have := HGL.out; have := HMO.out; omega), HJR.out])
    rw [Hm1.out, Hm2.out] at hcall
    have HCALL := Aside0.mk hcall
    clear hcall hb hr2
    go_wp2_with fail
    refine HCALL.out.mono ?_
    rintro e U3 ⟨v3, rfl, hr3, hb⟩
    have HR3 := Aside0.mk hr3
    have HB3 := Aside0.mk (below_more HB.out hb)
    clear hb HCALL hr3
    go_wp2
    go_ret2
    exact ⟨_, rfl, Kd.R_lower HR3.out HB.out.size, HB3.out⟩
   ·
    go_wp2_with fail
    generalize V6 = V7 at *
    refine (edit_when.calls true 14 w5 V7 (by rw [ewhen_is]; exact congrArg some Hw5.out)).mono ?_
    rintro e V8 ⟨rfl, hd⟩
    have HDC := Aside0.mk (blk_keep HDC.out (Gr.drawn hd).below)
    have HB := Aside0.mk (below_more HB.out (Gr.drawn hd).below)
    clear hd
    go_wp2_with fail
    refine (edit_first.calls 6 _ 5 [w1, sp, w3, w4, w5] er _ (intRow_C [w1, sp, w3, w4, w5] _ rfl (blk_new _ _) (by simp)) (Nat.le_refl _) (by rw [efirst_is _ (by simp) (by show 5 < 6; omega), Her.out])).mono ?_
    rintro e V9 ⟨rfl, hd⟩
    have hbb := below_more (below_alloc (Below.refl V8.heap.size V8) _) (Gr.drawn hd).below
    have HDC := Aside0.mk (blk_keep HDC.out hbb)
    have HB := Aside0.mk (below_more HB.out hbb)
    clear hd hbb
    have he : er ≠ 0 := fun h => by
     have hz := firstE_zero (Her.out.trans h)
     have := Hw5.out
     rw [hz.2.2.2.2] at this
     exact absurd (ite_zero (by decide) this) (by simp)
    have hne : (er == 0) = false := beq_eq_false_iff_ne.2 he
    have HNE := Aside0.mk he
    clear he
    go_wp2
    go_ret2
    have h := HRES.out
    unfold replR at h
    rw [HERR.out, if_pos HNE.out] at h
    cases h
    exact ⟨_, rfl, Kd.R_nil _ _ _ _ _, HB.out⟩
  ·
   go_wp2_with fail
   refine (edit_when.calls true 5 w3 V4 (by rw [ewhen_is]; exact congrArg some Hw3.out)).mono ?_
   rintro e V5 ⟨rfl, hd⟩
   have HDC := Aside0.mk (blk_keep HDC.out (Gr.drawn hd).below)
   have HB := Aside0.mk (below_more HB.out (Gr.drawn hd).below)
   clear hd
   go_wp2_with fail
   refine (edit_when.calls odd 13 w4 V5 (by rw [ewhen_is]; exact congrArg some Hw4.out)).mono ?_
   rintro e V6 ⟨rfl, hd⟩
   have HDC := Aside0.mk (blk_keep HDC.out (Gr.drawn hd).below)
   have HB := Aside0.mk (below_more HB.out (Gr.drawn hd).below)
   clear hd
   cases cnt
   ·
    go_wp2_with fail
    refine (HLATE.out V6 HB.out).mono ?_
    rintro e V7 ⟨rfl, hb⟩
    have HDC := Aside0.mk (blk_keep HDC.out hb)
    have HB := Aside0.mk (below_more HB.out hb)
    clear hb
    have hb1 : decide (late > wrap64 (4611686018427387904 - (m : Int))) = decide (wrap64 (4611686018427387904 - (m : Int)) < late) := rfl
    go_wp2_with fail
    clear hb1
    refine (edit_when.calls (decide (late > wrap64 (4611686018427387904 - (m : Int)))) 14 w5 V7 (by rw [ewhen_is]; exact congrArg some Hw5.out)).mono ?_
    rintro e V8 ⟨rfl, hd⟩
    have HDC := Aside0.mk (blk_keep HDC.out (Gr.drawn hd).below)
    have HB := Aside0.mk (below_more HB.out (Gr.drawn hd).below)
    clear hd
    go_wp2_with fail
    refine (edit_first.calls 6 _ 5 [w1, sp, w3, w4, w5] er _ (intRow_C [w1, sp, w3, w4, w5] _ rfl (blk_new _ _) (by simp)) (Nat.le_refl _) (by rw [efirst_is _ (by simp) (by show 5 < 6; omega), Her.out])).mono ?_
    rintro e V9 ⟨rfl, hd⟩
    have hbb := below_more (below_alloc (Below.refl V8.heap.size V8) _) (Gr.drawn hd).below
    have HDC := Aside0.mk (blk_keep HDC.out hbb)
    have HB := Aside0.mk (below_more HB.out hbb)
    clear hd hbb
    have he : er ≠ 0 := fun h => by
     have hz := firstE_zero (Her.out.trans h)
     have := Hw3.out
     rw [hz.2.2.1] at this
     exact absurd (ite_zero (by decide) this) (by simp)
    have hne : (er == 0) = false := beq_eq_false_iff_ne.2 he
    have HNE := Aside0.mk he
    clear he
    go_wp2
    go_ret2
    have h := HRES.out
    unfold replR at h
    rw [HERR.out, if_pos HNE.out] at h
    cases h
    exact ⟨_, rfl, Kd.R_nil _ _ _ _ _, HB.out⟩
   ·
    go_wp2_with fail
    generalize V6 = V7 at *
    refine (edit_when.calls true 14 w5 V7 (by rw [ewhen_is]; exact congrArg some Hw5.out)).mono ?_
    rintro e V8 ⟨rfl, hd⟩
    have HDC := Aside0.mk (blk_keep HDC.out (Gr.drawn hd).below)
    have HB := Aside0.mk (below_more HB.out (Gr.drawn hd).below)
    clear hd
    go_wp2_with fail
    refine (edit_first.calls 6 _ 5 [w1, sp, w3, w4, w5] er _ (intRow_C [w1, sp, w3, w4, w5] _ rfl (blk_new _ _) (by simp)) (Nat.le_refl _) (by rw [efirst_is _ (by simp) (by show 5 < 6; omega), Her.out])).mono ?_
    rintro e V9 ⟨rfl, hd⟩
    have hbb := below_more (below_alloc (Below.refl V8.heap.size V8) _) (Gr.drawn hd).below
    have HDC := Aside0.mk (blk_keep HDC.out hbb)
    have HB := Aside0.mk (below_more HB.out hbb)
    clear hd hbb
    have he : er ≠ 0 := fun h => by
     have hz := firstE_zero (Her.out.trans h)
     have := Hw3.out
     rw [hz.2.2.1] at this
     exact absurd (ite_zero (by decide) this) (by simp)
    have hne : (er == 0) = false := beq_eq_false_iff_ne.2 he
    have HNE := Aside0.mk he
    clear he
    go_wp2
    go_ret2
    have h := HRES.out
    unfold replR at h
    rw [HERR.out, if_pos HNE.out] at h
    cases h
    exact ⟨_, rfl, Kd.R_nil _ _ _ _ _, HB.out⟩
end Go.Proofs.YtmbndijbpgobeaaGreat.PWalk
end
section
namespace Go.Proofs.YtmbndijbpgobeaaGreat.PWalk
open Go.RowKit Go.Proofs.YtmbndijbpgobeaaGreatW.PrintWords Go.Proofs.YtmbndijbpgobeaaGreatW.PrintLast Go.Proofs.YtmbndijbpgobeaaGreatW.PrintMore
attribute [local go_sem] max2_int max_two
set_option linter.unusedVariables false
set_option linter.unusedSimpArgs false
def edit_Insert.f (l0 : List (S53)) (a1_0 : Int) (a1_1 : Int) (a2 : Int) (l3 : List Int) : Option ((List (S53)) × Int) := (edit_Replace.f l0 a1_0 a1_1 a2 0 l3).bind fun bt192 => (some (bt192.1, bt192.2))
set_option maxHeartbeats 8000000 in
set_option maxRecDepth 100000 in
theorem edit_Insert.calls (A0 : Option Addr) (c0 : Nat) (l0 : List (S53)) (a1_0 : Int) (a1_1 : Int) (a2 : Int) (A3 : Option Addr) (c3 : Nat) (l3 : List Int) (r1 : List (S53)) (r2 : Int) (w : World) (hr0 : Kd.C k53 w A0 l0.length l0) (hc0 : l0.length ≤ c0) (hr3 : Kd.C (Kd.int .i32) w A3 l3.length l3) (hc3 : l3.length ≤ c3) (h : edit_Insert.f l0 a1_0 a1_1 a2 l3 = some (r1, r2)) :
  Calls Tryz.prog 14 #[.slice A0 l0.length c0, .agg #[.int .i64 a1_0, .int .i64 a1_1], .int .i64 a2, .slice A3 l3.length c3] w fun e w' => ∃ v0_ : Value, e = .returned (.tuple #[v0_, .int .i64 r2]) ∧ Kd.R k53 53 w' w.heap.size (fun _ => True) v0_ r1 ∧ Below w.heap.size w w' := by
 have hu25 := Tryz.underlying25
 have HR0 := Aside0.mk hr0
 have HC0 := Aside0.mk hc0
 clear hr0 hc0
 have HR3 := Aside0.mk hr3
 have HC3 := Aside0.mk hc3
 clear hr3 hc3
 have HB := Aside0.mk (Below.refl w.heap.size w)
 have H : ((edit_Replace.f l0 a1_0 a1_1 a2 0 l3).bind fun bt192 => (some (bt192.1, bt192.2))) = some (r1, r2) := h
 clear h
 replace H := Option.bind_eq_some_iff.mp H
 obtain ⟨⟨t192, t195⟩, A50, H⟩ := H
 replace H : (some (t192, t195)) = some (r1, r2) := H
 have A5 := Aside0.mk A50
 clear A50
 simp only [Option.some.injEq, Prod.mk.injEq] at H
 obtain ⟨rfl, rfl⟩ := H
 go_enter Tryz.func14, Tryz.ntmps14
 go_wp2_with (first | ((with_reducible refine gate_dst (N := 5) rfl ?_); refine box_event ?hg (N := 5) ?hd (cs := #[.int .i64 a1_0, .int .i64 a1_1]) (t := 25) ?hr ?_; (case hd => rfl); (case hg => rfl); (case hr => first | (go_simp; done) | (go_simp; rfl)); intro gb191 hg w6 hbox hb; have n0_ := Aside0.mk (below_step (by repeat (first | (with_reducible first | exact HB.out | apply below_alloc | apply pw_below_drewN | apply below_drew1) | exact HB.out)) hb); have n1_ := Aside0.mk (hbox); have n2_ := Aside0.mk ((by rw [hg]; exact (below_size (by repeat (first | (with_reducible first | exact HB.out | apply below_alloc | apply pw_below_drewN | apply below_drew1) | exact HB.out))) : w.heap.size ≤ gb191)); have n3_ := Aside0.mk ((by rw [hg]; exact (below_size (by repeat (first | (with_reducible first | exact HB.out | apply below_alloc | apply pw_below_drewN | apply below_drew1) | exact HB.out))) : w.heap.size ≤ gb191)); clear HB; have HB := n0_; have BK191 := n1_; have GW191 := n2_; have GE191 := n3_; clear n0_ n1_ n2_ n3_; clear hb hbox hg; have hcz7_0 : w6.cell? ⟨gb191, 0, none⟩ = some (.int .i64 a1_0) := (blk_cell BK191.out 0).trans rfl; have hcz7_1 : w6.cell? ⟨gb191, 1, none⟩ = some (.int .i64 a1_1) := (blk_cell BK191.out 1).trans rfl; have hfz7_0 := blk_frozen BK191.out 0; have hfz7_1 := blk_frozen BK191.out 1) | ((with_reducible refine gate_callee (f := 22) rfl ?_); refine goesL_ (some 14) rfl rfl Tryz.func22 (by kernel_rfl) rfl #[.slice A0 l0.length c0, .agg #[.int .i64 a1_0, .int .i64 a1_1], .int .i64 a2, .int .i64 0, .slice A3 l3.length c3] rfl (by (try simp only [List.map_toArray, List.map_cons, List.map_nil]); first | done | rfl | (simp only [List.length_drop, List.length_take]; rfl)) ?_; (with_reducible refine (edit_Replace.calls _ _ l0 a1_0 a1_1 a2 0 _ _ l3 t192 t195 _ ?side1 ?side2 ?side3 ?side4 A5.out).mono ?_); (case side1 => repeat (first | exact (Kd.C_below HR0.out HB.out) | (with_reducible refine Kd.C_alloc ?_ _) | (with_reducible refine Kd.C_drewN ?_ _) | (with_reducible refine Kd.C_drew ?_))); (case side2 => exact HC0.out); (case side3 => repeat (first | exact (Kd.C_below HR3.out HB.out) | (with_reducible refine Kd.C_alloc ?_ _) | (with_reducible refine Kd.C_drewN ?_ _) | (with_reducible refine Kd.C_drew ?_))); (case side4 => exact HC3.out); rintro e w8 ⟨v193, rfl, ho0, hb⟩; refine ⟨_, rfl, ?_⟩; have n0_ := Aside0.mk (Kd.R_lower ho0 (below_size (by repeat (first | (with_reducible first | exact HB.out | apply below_alloc | apply pw_below_drewN | apply below_drew1 | refine below_set ?_ GE191.out) | exact HB.out)))); have n1_ := Aside0.mk (blk_below (g := gb191) (o := .cells #[.int .i64 a1_0, .int .i64 a1_1] 25 (0, 0)) (by (with_reducible repeat (first | refine blk_drewN ?_ _ | refine blk_drew ?_ | refine blk_alloc ?_ _)); exact BK191.out) hb); have n2_ := Aside0.mk (below_step (by repeat (first | (with_reducible first | exact HB.out | apply below_alloc | apply pw_below_drewN | apply below_drew1 | refine below_set ?_ GE191.out) | exact HB.out)) hb); clear BK191; clear HB; have HO194 := n0_; have BK191 := n1_; have HB := n2_; clear n0_ n1_ n2_; (try clear hb); (try clear hb2); (try clear hk); (try clear hi); (try clear ho0)))
 go_ret2
 exact ⟨_, by first | rfl | (simp [errW_none, errW_some] <;> rfl) | (simp [*, errW_none, errW_some] <;> rfl), by (with_reducible repeat (first | apply Kd.R_alloc | apply Kd.R_drewN | apply Kd.R_drew)); exact HO194.out, by repeat (first | (with_reducible first | exact HB.out | apply below_alloc | apply pw_below_drewN | apply below_drew1 | refine below_set ?_ GE191.out) | exact HB.out)⟩
end Go.Proofs.YtmbndijbpgobeaaGreat.PWalk
end
section
namespace Go.Proofs.YtmbndijbpgobeaaGreat.PWalk
open Go.RowKit Go.Proofs.YtmbndijbpgobeaaGreatW.PrintWords Go.Proofs.YtmbndijbpgobeaaGreatW.PrintLast Go.Proofs.YtmbndijbpgobeaaGreatW.PrintMore
attribute [local go_sem] max2_int max_two
set_option linter.unusedVariables false
set_option linter.unusedSimpArgs false
attribute [local go_sem high] eqA53
def redpencilref14_Same.l0 : Nat → List (S53) → List (S53) → Int → Option (Bool)
 | 0, _, _, _ => none
 | k + 1, x0, x1, x5 => if x5 < (x0.length : Int) then (if 0 ≤ x5 then (if x5 < (x1.length : Int) then (if ((!(((rd_T53 x0 x5).f0.f0) == ((rd_T53 x1 x5).f0.f0)) || (!(((rd_T53 x0 x5).f0.f1) == ((rd_T53 x1 x5).f0.f1)))) || ((!(((rd_T53 x0 x5).f1.f0) == ((rd_T53 x1 x5).f1.f0)) || (!(((rd_T53 x0 x5).f1.f1) == ((rd_T53 x1 x5).f1.f1)))) || (!(((rd_T53 x0 x5).f2) == ((rd_T53 x1 x5).f2)) || (!(((rd_T53 x0 x5).f3) == ((rd_T53 x1 x5).f3)))))) = true then (some false) else (redpencilref14_Same.l0 k x0 x1 (wrap64 (x5 + 1)))) else (none)) else (none)) else (some true)
def redpencilref14_Same.f (k : Nat) (l0 : List (S53)) (l1 : List (S53)) : Option (Bool) := if (l0.length : Int) = (l1.length : Int) then (redpencilref14_Same.l0 k l0 l1 0) else (some false)
set_option maxHeartbeats 8000000 in
set_option maxRecDepth 100000 in
theorem redpencilref14_Same.calls (k : Nat) (A0 : Option Addr) (c0 : Nat) (l0 : List (S53)) (A1 : Option Addr) (c1 : Nat) (l1 : List (S53)) (r : Bool) (w : World) (hr0 : Kd.C k53 w A0 l0.length l0) (hc0 : l0.length ≤ c0) (hr1 : Kd.C k53 w A1 l1.length l1) (hc1 : l1.length ≤ c1) (h : redpencilref14_Same.f k l0 l1 = some r) :
  Calls Tryz.prog 20 #[.slice A0 l0.length c0, .slice A1 l1.length c1] w fun e w' => e = .returned (.bool r) ∧ Drawn0 w w' := by
 have hu53 := Tryz.underlying53
 have HR0 := Aside0.mk hr0
 have HC0 := Aside0.mk hc0
 clear hr0 hc0
 have HR1 := Aside0.mk hr1
 have HC1 := Aside0.mk hc1
 clear hr1 hc1
 have H : (if (l0.length : Int) = (l1.length : Int) then (redpencilref14_Same.l0 k l0 l1 0) else (some false)) = some r := h
 clear h
 by_cases c3 : (l0.length : Int) = (l1.length : Int)
 ·
  rw [if_pos c3] at H
  have c3b0 : ((l0.length : Int) == (l1.length : Int)) = true := beq_iff_eq.mpr c3
  have c3b1 : ((l0.length : Int) != (l1.length : Int)) = false := bne_eq_false_iff_eq.mpr c3
  have c3b2 : (l0.length == l1.length) = true := by first | simpa using c3 | (simp at c3 ⊢; omega)
  clear c3
  have H' := Aside0.mk H
  clear H
  go_enter Tryz.func20, Tryz.ntmps20
  go_wp2
  repeat (go_quiet (fail); try go_wp2)
  go_loopg [5] k (fun kq v5 w' => ∃ (x5_1 : Int), v5 = .int .i64 x5_1 ∧ Aside0 (redpencilref14_Same.l0 kq l0 l1 x5_1 = some r) ∧ Aside0 (kq ≤ k) ∧ Drawn0 w w')
  case atStart => exact ⟨(0), (by first | rfl | (simp; done) | (simp [*]; done)), H', ⟨Nat.le_refl _⟩, by repeat (first | exact Drawn0.refl _ | apply Drawn0.step)⟩
  case round =>
   clear H'
   try clear c1
   try clear c2
   try clear p2
   try clear c3
   try clear c3b0
   try clear c3b1
   try clear c3b2
   obtain ⟨x5_1, rfl, HA, HK1, ⟨m1, rfl⟩⟩ := hrel
   cases gk with
   | zero => exact absurd HA.out (by simp [redpencilref14_Same.l0])
   | succ k1 =>
    have H := HA.out
    clear HA
    simp only [redpencilref14_Same.l0] at H
    by_cases c4 : x5_1 < (l0.length : Int)
    ·
     rw [if_pos c4] at H
     have c4b0 : decide (x5_1 < (l0.length : Int)) = true := decide_eq_true c4
     clear c4
     by_cases c5 : 0 ≤ x5_1
     ·
      rw [if_pos c5] at H
      have c5b0 : decide (0 ≤ x5_1) = true := decide_eq_true c5
      clear c5
      by_cases c6 : x5_1 < (l1.length : Int)
      ·
       rw [if_pos c6] at H
       have c6b0 : decide (x5_1 < (l1.length : Int)) = true := decide_eq_true c6
       clear c6
       by_cases c7 : ((!(((rd_T53 l0 x5_1).f0.f0) == ((rd_T53 l1 x5_1).f0.f0)) || (!(((rd_T53 l0 x5_1).f0.f1) == ((rd_T53 l1 x5_1).f0.f1)))) || ((!(((rd_T53 l0 x5_1).f1.f0) == ((rd_T53 l1 x5_1).f1.f0)) || (!(((rd_T53 l0 x5_1).f1.f1) == ((rd_T53 l1 x5_1).f1.f1)))) || (!(((rd_T53 l0 x5_1).f2) == ((rd_T53 l1 x5_1).f2)) || (!(((rd_T53 l0 x5_1).f3) == ((rd_T53 l1 x5_1).f3)))))) = true
       ·
        rw [if_pos c7] at H
        have c7b0 : ((!(((rd_T53 l0 x5_1).f0.f0) == ((rd_T53 l1 x5_1).f0.f0)) || (!(((rd_T53 l0 x5_1).f0.f1) == ((rd_T53 l1 x5_1).f0.f1)))) || ((!(((rd_T53 l0 x5_1).f1.f0) == ((rd_T53 l1 x5_1).f1.f0)) || (!(((rd_T53 l0 x5_1).f1.f1) == ((rd_T53 l1 x5_1).f1.f1)))) || (!(((rd_T53 l0 x5_1).f2) == ((rd_T53 l1 x5_1).f2)) || (!(((rd_T53 l0 x5_1).f3) == ((rd_T53 l1 x5_1).f3)))))) = true := c7
        clear c7
        obtain rfl := Option.some.inj H
        have p196 : 0 ≤ (x5_1 : Int) := of_decide_eq_true (by first | (with_reducible assumption) | assumption)
        have q196 : x5_1 < (l0.length : Int) := of_decide_eq_true (by first | (with_reducible assumption) | assumption)
        obtain ⟨ad196, e196, hx196_0, hx196_1, hx196_2, hx196_3, hx196_4, hx196_5⟩ := at_T53 HR0.out x5_1 p196 q196
        cases e196
        replace p196 := eq_true p196
        replace q196 := eq_true q196
        have p197 : 0 ≤ (x5_1 : Int) := of_decide_eq_true (by first | (with_reducible assumption) | assumption)
        have q197 : x5_1 < (l1.length : Int) := of_decide_eq_true (by first | (with_reducible assumption) | assumption)
        obtain ⟨ad197, e197, hx197_0, hx197_1, hx197_2, hx197_3, hx197_4, hx197_5⟩ := at_T53 HR1.out x5_1 p197 q197
        cases e197
        replace p197 := eq_true p197
        replace q197 := eq_true q197
        go_wp2
        repeat (go_quiet (fail); try go_wp2)
        go_ret
        exact ⟨by first | rfl | (simp; done) | (simp [*]; done), by repeat (first | exact Drawn0.refl _ | apply Drawn0.step)⟩
       ·
        rw [if_neg c7] at H
        have c7b0 : ((!(((rd_T53 l0 x5_1).f0.f0) == ((rd_T53 l1 x5_1).f0.f0)) || (!(((rd_T53 l0 x5_1).f0.f1) == ((rd_T53 l1 x5_1).f0.f1)))) || ((!(((rd_T53 l0 x5_1).f1.f0) == ((rd_T53 l1 x5_1).f1.f0)) || (!(((rd_T53 l0 x5_1).f1.f1) == ((rd_T53 l1 x5_1).f1.f1)))) || (!(((rd_T53 l0 x5_1).f2) == ((rd_T53 l1 x5_1).f2)) || (!(((rd_T53 l0 x5_1).f3) == ((rd_T53 l1 x5_1).f3)))))) = false := by simpa using c7
        clear c7
        have H' := Aside0.mk H
        clear H
        have p196 : 0 ≤ (x5_1 : Int) := of_decide_eq_true (by first | (with_reducible assumption) | assumption)
        have q196 : x5_1 < (l0.length : Int) := of_decide_eq_true (by first | (with_reducible assumption) | assumption)
        obtain ⟨ad196, e196, hx196_0, hx196_1, hx196_2, hx196_3, hx196_4, hx196_5⟩ := at_T53 HR0.out x5_1 p196 q196
        cases e196
        replace p196 := eq_true p196
        replace q196 := eq_true q196
        have p197 : 0 ≤ (x5_1 : Int) := of_decide_eq_true (by first | (with_reducible assumption) | assumption)
        have q197 : x5_1 < (l1.length : Int) := of_decide_eq_true (by first | (with_reducible assumption) | assumption)
        obtain ⟨ad197, e197, hx197_0, hx197_1, hx197_2, hx197_3, hx197_4, hx197_5⟩ := at_T53 HR1.out x5_1 p197 q197
        cases e197
        replace p197 := eq_true p197
        replace q197 := eq_true q197
        go_wp2
        repeat (go_quiet (fail); try go_wp2)
        go_roundg k1
        case measure => have := HK1.out; omega
        case rel => exact ⟨(wrap64 (x5_1 + 1)), (by first | rfl | (simp; done) | (simp [*]; done)), H', ⟨by have := HK1.out; omega⟩, by repeat (first | exact Drawn0.refl _ | apply Drawn0.step)⟩
      ·
       rw [if_neg c6] at H
       exact absurd H (by simp)
     ·
      rw [if_neg c5] at H
      exact absurd H (by simp)
    ·
     rw [if_neg c4] at H
     have c4b0 : decide (x5_1 < (l0.length : Int)) = false := decide_eq_false c4
     clear c4
     obtain rfl := Option.some.inj H
     go_wp2
     repeat (go_quiet (fail); try go_wp2)
     go_ret
     exact ⟨by first | rfl | (simp; done) | (simp [*]; done), by repeat (first | exact Drawn0.refl _ | apply Drawn0.step)⟩
 ·
  rw [if_neg c3] at H
  have c3b0 : ((l0.length : Int) == (l1.length : Int)) = false := beq_eq_false_iff_ne.mpr c3
  have c3b1 : ((l0.length : Int) != (l1.length : Int)) = true := bne_iff_ne.mpr c3
  have c3b2 : (l0.length == l1.length) = false := by first | simpa using c3 | (simp at c3 ⊢; omega)
  obtain rfl := Option.some.inj H
  go_enter Tryz.func20, Tryz.ntmps20
  go_wp2
  repeat (go_quiet (fail); try go_wp2)
  go_ret
  exact ⟨by first | rfl | (simp; done) | (simp [*]; done), by repeat (first | exact Drawn0.refl _ | apply Drawn0.step)⟩
def redpencillaw15_inserts.f (k : Nat) (l0 : List (S53)) (a1_0 : Int) (a1_1 : Int) (a2 : Int) (l3 : List Int) (l4 : List (S53)) (a5 : Int) : Option (Bool) := (edit_Insert.f l0 a1_0 a1_1 a2 l3).bind fun bt199 => ((redpencilref14_Same.f k bt199.1 l4).bind fun t203 => (if t203 = true then (some (bt199.2 == a5)) else (some false)))
set_option maxHeartbeats 8000000 in
set_option maxRecDepth 100000 in
theorem redpencillaw15_inserts.calls (k : Nat) (A0 : Option Addr) (c0 : Nat) (l0 : List (S53)) (a1_0 : Int) (a1_1 : Int) (a2 : Int) (A3 : Option Addr) (c3 : Nat) (l3 : List Int) (A4 : Option Addr) (c4 : Nat) (l4 : List (S53)) (a5 : Int) (r : Bool) (w : World) (hr0 : Kd.C k53 w A0 l0.length l0) (hc0 : l0.length ≤ c0) (hr3 : Kd.C (Kd.int .i32) w A3 l3.length l3) (hc3 : l3.length ≤ c3) (hr4 : Kd.C k53 w A4 l4.length l4) (hc4 : l4.length ≤ c4) (h : redpencillaw15_inserts.f k l0 a1_0 a1_1 a2 l3 l4 a5 = some r) :
  Calls Tryz.prog 13 #[.slice A0 l0.length c0, .agg #[.int .i64 a1_0, .int .i64 a1_1], .int .i64 a2, .slice A3 l3.length c3, .slice A4 l4.length c4, .int .i64 a5] w fun e w' => e = .returned (.bool r) ∧ Below w.heap.size w w' := by
 have hu25 := Tryz.underlying25
 have HR0 := Aside0.mk hr0
 have HC0 := Aside0.mk hc0
 clear hr0 hc0
 have HR3 := Aside0.mk hr3
 have HC3 := Aside0.mk hc3
 clear hr3 hc3
 have HR4 := Aside0.mk hr4
 have HC4 := Aside0.mk hc4
 clear hr4 hc4
 have HB := Aside0.mk (Below.refl w.heap.size w)
 have H : ((edit_Insert.f l0 a1_0 a1_1 a2 l3).bind fun bt199 => ((redpencilref14_Same.f k bt199.1 l4).bind fun t203 => (if t203 = true then (some (bt199.2 == a5)) else (some false)))) = some r := h
 clear h
 replace H := Option.bind_eq_some_iff.mp H
 obtain ⟨⟨t199, t202⟩, A70, H⟩ := H
 replace H : ((redpencilref14_Same.f k t199 l4).bind fun t203 => (if t203 = true then (some (t202 == a5)) else (some false))) = some r := H
 have A7 := Aside0.mk A70
 clear A70
 replace H := Option.bind_eq_some_iff.mp H
 obtain ⟨t203, A80, H⟩ := H
 replace H : (if t203 = true then (some (t202 == a5)) else (some false)) = some r := H
 have A8 := Aside0.mk A80
 clear A80
 by_cases c9 : t203 = true
 ·
  subst c9
  have H1 : (some (t202 == a5)) = some r := by rw [if_pos rfl] at H; exact H
  clear H
  have H := H1
  clear H1
  obtain rfl := Option.some.inj H
  go_enter Tryz.func13, Tryz.ntmps13
  go_wp2_with (first | ((with_reducible refine gate_dst (N := 7) rfl ?_); refine box_event ?hg (N := 7) ?hd (cs := #[.int .i64 a1_0, .int .i64 a1_1]) (t := 25) ?hr ?_; (case hd => rfl); (case hg => rfl); (case hr => first | (go_simp; done) | (go_simp; rfl)); intro gb198 hg w10 hbox hb; have n0_ := Aside0.mk (below_step (by repeat (first | (with_reducible first | exact HB.out | apply below_alloc | apply pw_below_drewN | apply below_drew1) | exact HB.out)) hb); have n1_ := Aside0.mk (hbox); have n2_ := Aside0.mk ((by rw [hg]; exact (below_size (by repeat (first | (with_reducible first | exact HB.out | apply below_alloc | apply pw_below_drewN | apply below_drew1) | exact HB.out))) : w.heap.size ≤ gb198)); have n3_ := Aside0.mk ((by rw [hg]; exact (below_size (by repeat (first | (with_reducible first | exact HB.out | apply below_alloc | apply pw_below_drewN | apply below_drew1) | exact HB.out))) : w.heap.size ≤ gb198)); clear HB; have HB := n0_; have BK198 := n1_; have GW198 := n2_; have GE198 := n3_; clear n0_ n1_ n2_ n3_; clear hb hbox hg; have hcz11_0 : w10.cell? ⟨gb198, 0, none⟩ = some (.int .i64 a1_0) := (blk_cell BK198.out 0).trans rfl; have hcz11_1 : w10.cell? ⟨gb198, 1, none⟩ = some (.int .i64 a1_1) := (blk_cell BK198.out 1).trans rfl; have hfz11_0 := blk_frozen BK198.out 0; have hfz11_1 := blk_frozen BK198.out 1) | ((with_reducible refine gate_callee (f := 14) rfl ?_); refine goesL_ (some 20) rfl rfl Tryz.func14 (by kernel_rfl) rfl #[.slice A0 l0.length c0, .agg #[.int .i64 a1_0, .int .i64 a1_1], .int .i64 a2, .slice A3 l3.length c3] rfl (by (try simp only [List.map_toArray, List.map_cons, List.map_nil]); first | done | rfl | (simp only [List.length_drop, List.length_take]; rfl)) ?_; (with_reducible refine (edit_Insert.calls _ _ l0 a1_0 a1_1 a2 _ _ l3 t199 t202 _ ?side1 ?side2 ?side3 ?side4 A7.out).mono ?_); (case side1 => repeat (first | exact (Kd.C_below HR0.out HB.out) | (with_reducible refine Kd.C_alloc ?_ _) | (with_reducible refine Kd.C_drewN ?_ _) | (with_reducible refine Kd.C_drew ?_))); (case side2 => exact HC0.out); (case side3 => repeat (first | exact (Kd.C_below HR3.out HB.out) | (with_reducible refine Kd.C_alloc ?_ _) | (with_reducible refine Kd.C_drewN ?_ _) | (with_reducible refine Kd.C_drew ?_))); (case side4 => exact HC3.out); rintro e w12 ⟨v200, rfl, ho0, hb⟩; refine ⟨_, rfl, ?_⟩; have n0_ := Aside0.mk (Kd.R_lower ho0 (below_size (by repeat (first | (with_reducible first | exact HB.out | apply below_alloc | apply pw_below_drewN | apply below_drew1 | refine below_set ?_ GE198.out) | exact HB.out)))); have n1_ := Aside0.mk (blk_below (g := gb198) (o := .cells #[.int .i64 a1_0, .int .i64 a1_1] 25 (0, 0)) (by (with_reducible repeat (first | refine blk_drewN ?_ _ | refine blk_drew ?_ | refine blk_alloc ?_ _)); exact BK198.out) hb); have n2_ := Aside0.mk (below_step (by repeat (first | (with_reducible first | exact HB.out | apply below_alloc | apply pw_below_drewN | apply below_drew1 | refine below_set ?_ GE198.out) | exact HB.out)) hb); clear BK198; clear HB; have HO201 := n0_; have BK198 := n1_; have HB := n2_; clear n0_ n1_ n2_; (try clear hb); (try clear hb2); (try clear hk); (try clear hi); (try clear ho0); obtain ⟨Ao13, co13, eo13⟩ := Kd.R_slice HO201.out; subst eo13) | ((with_reducible refine gate_callee (f := 20) rfl ?_); refine goesL_ (some 25) rfl rfl Tryz.func20 (by kernel_rfl) rfl #[.slice Ao13 t199.length co13, .slice A4 l4.length c4] rfl (by (try simp only [List.map_toArray, List.map_cons, List.map_nil]); first | done | rfl | (simp only [List.length_drop, List.length_take]; rfl)) ?_; (with_reducible refine (redpencilref14_Same.calls k _ _ t199 _ _ l4 true _ ?side1 ?side2 ?side3 ?side4 A8.out).mono ?_); (case side1 => repeat (first | exact (Kd.R_reads' HO201.out).2.2 | (with_reducible refine Kd.C_alloc ?_ _) | (with_reducible refine Kd.C_drewN ?_ _) | (with_reducible refine Kd.C_drew ?_))); (case side2 => exact (Kd.R_reads' HO201.out).2.1); (case side3 => repeat (first | exact (Kd.C_below HR4.out HB.out) | (with_reducible refine Kd.C_alloc ?_ _) | (with_reducible refine Kd.C_drewN ?_ _) | (with_reducible refine Kd.C_drew ?_))); (case side4 => exact HC4.out); rintro e w' ⟨rfl, ⟨nd, rfl⟩⟩; refine ⟨_, rfl, ?_⟩))
  go_ret
  exact ⟨by first | rfl | (simp [errW_none, errW_some] <;> rfl) | (simp [*, errW_none, errW_some] <;> rfl), by repeat (first | (with_reducible first | exact HB.out | apply below_alloc | apply pw_below_drewN | apply below_drew1 | refine below_set ?_ GE198.out) | exact HB.out)⟩
 ·
  replace c9 := Bool.eq_false_iff.mpr c9
  subst c9
  have H1 : (some false) = some r := by rw [if_neg (show ¬ (false = true) by decide)] at H; exact H
  clear H
  have H := H1
  clear H1
  obtain rfl := Option.some.inj H
  go_enter Tryz.func13, Tryz.ntmps13
  go_wp2_with (first | ((with_reducible refine gate_dst (N := 7) rfl ?_); refine box_event ?hg (N := 7) ?hd (cs := #[.int .i64 a1_0, .int .i64 a1_1]) (t := 25) ?hr ?_; (case hd => rfl); (case hg => rfl); (case hr => first | (go_simp; done) | (go_simp; rfl)); intro gb198 hg w14 hbox hb; have n0_ := Aside0.mk (below_step (by repeat (first | (with_reducible first | exact HB.out | apply below_alloc | apply pw_below_drewN | apply below_drew1) | exact HB.out)) hb); have n1_ := Aside0.mk (hbox); have n2_ := Aside0.mk ((by rw [hg]; exact (below_size (by repeat (first | (with_reducible first | exact HB.out | apply below_alloc | apply pw_below_drewN | apply below_drew1) | exact HB.out))) : w.heap.size ≤ gb198)); have n3_ := Aside0.mk ((by rw [hg]; exact (below_size (by repeat (first | (with_reducible first | exact HB.out | apply below_alloc | apply pw_below_drewN | apply below_drew1) | exact HB.out))) : w.heap.size ≤ gb198)); clear HB; have HB := n0_; have BK198 := n1_; have GW198 := n2_; have GE198 := n3_; clear n0_ n1_ n2_ n3_; clear hb hbox hg; have hcz15_0 : w14.cell? ⟨gb198, 0, none⟩ = some (.int .i64 a1_0) := (blk_cell BK198.out 0).trans rfl; have hcz15_1 : w14.cell? ⟨gb198, 1, none⟩ = some (.int .i64 a1_1) := (blk_cell BK198.out 1).trans rfl; have hfz15_0 := blk_frozen BK198.out 0; have hfz15_1 := blk_frozen BK198.out 1) | ((with_reducible refine gate_callee (f := 14) rfl ?_); refine goesL_ (some 20) rfl rfl Tryz.func14 (by kernel_rfl) rfl #[.slice A0 l0.length c0, .agg #[.int .i64 a1_0, .int .i64 a1_1], .int .i64 a2, .slice A3 l3.length c3] rfl (by (try simp only [List.map_toArray, List.map_cons, List.map_nil]); first | done | rfl | (simp only [List.length_drop, List.length_take]; rfl)) ?_; (with_reducible refine (edit_Insert.calls _ _ l0 a1_0 a1_1 a2 _ _ l3 t199 t202 _ ?side1 ?side2 ?side3 ?side4 A7.out).mono ?_); (case side1 => repeat (first | exact (Kd.C_below HR0.out HB.out) | (with_reducible refine Kd.C_alloc ?_ _) | (with_reducible refine Kd.C_drewN ?_ _) | (with_reducible refine Kd.C_drew ?_))); (case side2 => exact HC0.out); (case side3 => repeat (first | exact (Kd.C_below HR3.out HB.out) | (with_reducible refine Kd.C_alloc ?_ _) | (with_reducible refine Kd.C_drewN ?_ _) | (with_reducible refine Kd.C_drew ?_))); (case side4 => exact HC3.out); rintro e w16 ⟨v200, rfl, ho0, hb⟩; refine ⟨_, rfl, ?_⟩; have n0_ := Aside0.mk (Kd.R_lower ho0 (below_size (by repeat (first | (with_reducible first | exact HB.out | apply below_alloc | apply pw_below_drewN | apply below_drew1 | refine below_set ?_ GE198.out) | exact HB.out)))); have n1_ := Aside0.mk (blk_below (g := gb198) (o := .cells #[.int .i64 a1_0, .int .i64 a1_1] 25 (0, 0)) (by (with_reducible repeat (first | refine blk_drewN ?_ _ | refine blk_drew ?_ | refine blk_alloc ?_ _)); exact BK198.out) hb); have n2_ := Aside0.mk (below_step (by repeat (first | (with_reducible first | exact HB.out | apply below_alloc | apply pw_below_drewN | apply below_drew1 | refine below_set ?_ GE198.out) | exact HB.out)) hb); clear BK198; clear HB; have HO201 := n0_; have BK198 := n1_; have HB := n2_; clear n0_ n1_ n2_; (try clear hb); (try clear hb2); (try clear hk); (try clear hi); (try clear ho0); obtain ⟨Ao17, co17, eo17⟩ := Kd.R_slice HO201.out; subst eo17) | ((with_reducible refine gate_callee (f := 20) rfl ?_); refine goesL_ (some 25) rfl rfl Tryz.func20 (by kernel_rfl) rfl #[.slice Ao17 t199.length co17, .slice A4 l4.length c4] rfl (by (try simp only [List.map_toArray, List.map_cons, List.map_nil]); first | done | rfl | (simp only [List.length_drop, List.length_take]; rfl)) ?_; (with_reducible refine (redpencilref14_Same.calls k _ _ t199 _ _ l4 false _ ?side1 ?side2 ?side3 ?side4 A8.out).mono ?_); (case side1 => repeat (first | exact (Kd.R_reads' HO201.out).2.2 | (with_reducible refine Kd.C_alloc ?_ _) | (with_reducible refine Kd.C_drewN ?_ _) | (with_reducible refine Kd.C_drew ?_))); (case side2 => exact (Kd.R_reads' HO201.out).2.1); (case side3 => repeat (first | exact (Kd.C_below HR4.out HB.out) | (with_reducible refine Kd.C_alloc ?_ _) | (with_reducible refine Kd.C_drewN ?_ _) | (with_reducible refine Kd.C_drew ?_))); (case side4 => exact HC4.out); rintro e w' ⟨rfl, ⟨nd, rfl⟩⟩; refine ⟨_, rfl, ?_⟩))
  go_ret
  exact ⟨by first | rfl | (simp [errW_none, errW_some] <;> rfl) | (simp [*, errW_none, errW_some] <;> rfl), by repeat (first | (with_reducible first | exact HB.out | apply below_alloc | apply pw_below_drewN | apply below_drew1 | refine below_set ?_ GE198.out) | exact HB.out)⟩
def redpencillaw15_deletes.f (k : Nat) (l0 : List (S53)) (a1 : Int) (a2 : Int) (l3 : List (S53)) (a4 : Int) : Option (Bool) := (edit_Delete.f l0 a1 a2).bind fun bt204 => ((redpencilref14_Same.f k bt204.1 l3).bind fun t208 => (if t208 = true then (some (bt204.2 == a4)) else (some false)))
set_option maxHeartbeats 8000000 in
set_option maxRecDepth 100000 in
theorem redpencillaw15_deletes.calls (k : Nat) (A0 : Option Addr) (c0 : Nat) (l0 : List (S53)) (a1 : Int) (a2 : Int) (A3 : Option Addr) (c3 : Nat) (l3 : List (S53)) (a4 : Int) (r : Bool) (w : World) (hr0 : Kd.C k53 w A0 l0.length l0) (hc0 : l0.length ≤ c0) (hr3 : Kd.C k53 w A3 l3.length l3) (hc3 : l3.length ≤ c3) (h : redpencillaw15_deletes.f k l0 a1 a2 l3 a4 = some r) :
  Calls Tryz.prog 18 #[.slice A0 l0.length c0, .int .i64 a1, .int .i64 a2, .slice A3 l3.length c3, .int .i64 a4] w fun e w' => e = .returned (.bool r) ∧ Below w.heap.size w w' := by
 have HR0 := Aside0.mk hr0
 have HC0 := Aside0.mk hc0
 clear hr0 hc0
 have HR3 := Aside0.mk hr3
 have HC3 := Aside0.mk hc3
 clear hr3 hc3
 have HB := Aside0.mk (Below.refl w.heap.size w)
 have H : ((edit_Delete.f l0 a1 a2).bind fun bt204 => ((redpencilref14_Same.f k bt204.1 l3).bind fun t208 => (if t208 = true then (some (bt204.2 == a4)) else (some false)))) = some r := h
 clear h
 replace H := Option.bind_eq_some_iff.mp H
 obtain ⟨⟨t204, t205⟩, A60, H⟩ := H
 replace H : ((redpencilref14_Same.f k t204 l3).bind fun t208 => (if t208 = true then (some (t205 == a4)) else (some false))) = some r := H
 have A6 := Aside0.mk A60
 clear A60
 replace H := Option.bind_eq_some_iff.mp H
 obtain ⟨t208, A70, H⟩ := H
 replace H : (if t208 = true then (some (t205 == a4)) else (some false)) = some r := H
 have A7 := Aside0.mk A70
 clear A70
 by_cases c8 : t208 = true
 ·
  subst c8
  have H1 : (some (t205 == a4)) = some r := by rw [if_pos rfl] at H; exact H
  clear H
  have H := H1
  clear H1
  obtain rfl := Option.some.inj H
  go_enter Tryz.func18, Tryz.ntmps18
  go_wp2_with (first | ((with_reducible refine gate_callee (f := 19) rfl ?_); refine goesL_ (some 17) rfl rfl Tryz.func19 (by kernel_rfl) rfl #[.slice A0 l0.length c0, .int .i64 a1, .int .i64 a2] rfl (by (try simp only [List.map_toArray, List.map_cons, List.map_nil]); first | done | rfl | (simp only [List.length_drop, List.length_take]; rfl)) ?_; (with_reducible refine (edit_Delete.calls _ _ l0 a1 a2 t204 t205 _ ?side1 ?side2 A6.out).mono ?_); (case side1 => repeat (first | exact HR0.out | (with_reducible refine Kd.C_alloc ?_ _) | (with_reducible refine Kd.C_drewN ?_ _) | (with_reducible refine Kd.C_drew ?_))); (case side2 => exact HC0.out); rintro e w9 ⟨v206, rfl, ho0, hb⟩; refine ⟨_, rfl, ?_⟩; have n0_ := Aside0.mk (Kd.R_lower ho0 (below_size (by repeat (first | (with_reducible first | exact HB.out | apply below_alloc | apply pw_below_drewN | apply below_drew1) | exact HB.out)))); have n1_ := Aside0.mk (below_step (by repeat (first | (with_reducible first | exact HB.out | apply below_alloc | apply pw_below_drewN | apply below_drew1) | exact HB.out)) hb); clear HB; have HO207 := n0_; have HB := n1_; clear n0_ n1_; (try clear hb); (try clear hb2); (try clear hk); (try clear hi); (try clear ho0); obtain ⟨Ao10, co10, eo10⟩ := Kd.R_slice HO207.out; subst eo10) | ((with_reducible refine gate_callee (f := 20) rfl ?_); refine goesL_ (some 22) rfl rfl Tryz.func20 (by kernel_rfl) rfl #[.slice Ao10 t204.length co10, .slice A3 l3.length c3] rfl (by (try simp only [List.map_toArray, List.map_cons, List.map_nil]); first | done | rfl | (simp only [List.length_drop, List.length_take]; rfl)) ?_; (with_reducible refine (redpencilref14_Same.calls k _ _ t204 _ _ l3 true _ ?side1 ?side2 ?side3 ?side4 A7.out).mono ?_); (case side1 => repeat (first | exact (Kd.R_reads' HO207.out).2.2 | (with_reducible refine Kd.C_alloc ?_ _) | (with_reducible refine Kd.C_drewN ?_ _) | (with_reducible refine Kd.C_drew ?_))); (case side2 => exact (Kd.R_reads' HO207.out).2.1); (case side3 => repeat (first | exact (Kd.C_below HR3.out HB.out) | (with_reducible refine Kd.C_alloc ?_ _) | (with_reducible refine Kd.C_drewN ?_ _) | (with_reducible refine Kd.C_drew ?_))); (case side4 => exact HC3.out); rintro e w' ⟨rfl, ⟨nd, rfl⟩⟩; refine ⟨_, rfl, ?_⟩))
  go_ret
  exact ⟨by first | rfl | (simp [errW_none, errW_some] <;> rfl) | (simp [*, errW_none, errW_some] <;> rfl), by repeat (first | (with_reducible first | exact HB.out | apply below_alloc | apply pw_below_drewN | apply below_drew1) | exact HB.out)⟩
 ·
  replace c8 := Bool.eq_false_iff.mpr c8
  subst c8
  have H1 : (some false) = some r := by rw [if_neg (show ¬ (false = true) by decide)] at H; exact H
  clear H
  have H := H1
  clear H1
  obtain rfl := Option.some.inj H
  go_enter Tryz.func18, Tryz.ntmps18
  go_wp2_with (first | ((with_reducible refine gate_callee (f := 19) rfl ?_); refine goesL_ (some 17) rfl rfl Tryz.func19 (by kernel_rfl) rfl #[.slice A0 l0.length c0, .int .i64 a1, .int .i64 a2] rfl (by (try simp only [List.map_toArray, List.map_cons, List.map_nil]); first | done | rfl | (simp only [List.length_drop, List.length_take]; rfl)) ?_; (with_reducible refine (edit_Delete.calls _ _ l0 a1 a2 t204 t205 _ ?side1 ?side2 A6.out).mono ?_); (case side1 => repeat (first | exact HR0.out | (with_reducible refine Kd.C_alloc ?_ _) | (with_reducible refine Kd.C_drewN ?_ _) | (with_reducible refine Kd.C_drew ?_))); (case side2 => exact HC0.out); rintro e w11 ⟨v206, rfl, ho0, hb⟩; refine ⟨_, rfl, ?_⟩; have n0_ := Aside0.mk (Kd.R_lower ho0 (below_size (by repeat (first | (with_reducible first | exact HB.out | apply below_alloc | apply pw_below_drewN | apply below_drew1) | exact HB.out)))); have n1_ := Aside0.mk (below_step (by repeat (first | (with_reducible first | exact HB.out | apply below_alloc | apply pw_below_drewN | apply below_drew1) | exact HB.out)) hb); clear HB; have HO207 := n0_; have HB := n1_; clear n0_ n1_; (try clear hb); (try clear hb2); (try clear hk); (try clear hi); (try clear ho0); obtain ⟨Ao12, co12, eo12⟩ := Kd.R_slice HO207.out; subst eo12) | ((with_reducible refine gate_callee (f := 20) rfl ?_); refine goesL_ (some 22) rfl rfl Tryz.func20 (by kernel_rfl) rfl #[.slice Ao12 t204.length co12, .slice A3 l3.length c3] rfl (by (try simp only [List.map_toArray, List.map_cons, List.map_nil]); first | done | rfl | (simp only [List.length_drop, List.length_take]; rfl)) ?_; (with_reducible refine (redpencilref14_Same.calls k _ _ t204 _ _ l3 false _ ?side1 ?side2 ?side3 ?side4 A7.out).mono ?_); (case side1 => repeat (first | exact (Kd.R_reads' HO207.out).2.2 | (with_reducible refine Kd.C_alloc ?_ _) | (with_reducible refine Kd.C_drewN ?_ _) | (with_reducible refine Kd.C_drew ?_))); (case side2 => exact (Kd.R_reads' HO207.out).2.1); (case side3 => repeat (first | exact (Kd.C_below HR3.out HB.out) | (with_reducible refine Kd.C_alloc ?_ _) | (with_reducible refine Kd.C_drewN ?_ _) | (with_reducible refine Kd.C_drew ?_))); (case side4 => exact HC3.out); rintro e w' ⟨rfl, ⟨nd, rfl⟩⟩; refine ⟨_, rfl, ?_⟩))
  go_ret
  exact ⟨by first | rfl | (simp [errW_none, errW_some] <;> rfl) | (simp [*, errW_none, errW_some] <;> rfl), by repeat (first | (with_reducible first | exact HB.out | apply below_alloc | apply pw_below_drewN | apply below_drew1) | exact HB.out)⟩
def redpencillaw15_replaces.f (k : Nat) (l0 : List (S53)) (a1_0 : Int) (a1_1 : Int) (a2 : Int) (a3 : Int) (l4 : List Int) (l5 : List (S53)) (a6 : Int) : Option (Bool) := (edit_Replace.f l0 a1_0 a1_1 a2 a3 l4).bind fun bt210 => ((redpencilref14_Same.f k bt210.1 l5).bind fun t214 => (if t214 = true then (some (bt210.2 == a6)) else (some false)))
set_option maxHeartbeats 8000000 in
set_option maxRecDepth 100000 in
theorem redpencillaw15_replaces.calls (k : Nat) (A0 : Option Addr) (c0 : Nat) (l0 : List (S53)) (a1_0 : Int) (a1_1 : Int) (a2 : Int) (a3 : Int) (A4 : Option Addr) (c4 : Nat) (l4 : List Int) (A5 : Option Addr) (c5 : Nat) (l5 : List (S53)) (a6 : Int) (r : Bool) (w : World) (hr0 : Kd.C k53 w A0 l0.length l0) (hc0 : l0.length ≤ c0) (hr4 : Kd.C (Kd.int .i32) w A4 l4.length l4) (hc4 : l4.length ≤ c4) (hr5 : Kd.C k53 w A5 l5.length l5) (hc5 : l5.length ≤ c5) (h : redpencillaw15_replaces.f k l0 a1_0 a1_1 a2 a3 l4 l5 a6 = some r) :
  Calls Tryz.prog 21 #[.slice A0 l0.length c0, .agg #[.int .i64 a1_0, .int .i64 a1_1], .int .i64 a2, .int .i64 a3, .slice A4 l4.length c4, .slice A5 l5.length c5, .int .i64 a6] w fun e w' => e = .returned (.bool r) ∧ Below w.heap.size w w' := by
 have hu25 := Tryz.underlying25
 have HR0 := Aside0.mk hr0
 have HC0 := Aside0.mk hc0
 clear hr0 hc0
 have HR4 := Aside0.mk hr4
 have HC4 := Aside0.mk hc4
 clear hr4 hc4
 have HR5 := Aside0.mk hr5
 have HC5 := Aside0.mk hc5
 clear hr5 hc5
 have HB := Aside0.mk (Below.refl w.heap.size w)
 have H : ((edit_Replace.f l0 a1_0 a1_1 a2 a3 l4).bind fun bt210 => ((redpencilref14_Same.f k bt210.1 l5).bind fun t214 => (if t214 = true then (some (bt210.2 == a6)) else (some false)))) = some r := h
 clear h
 replace H := Option.bind_eq_some_iff.mp H
 obtain ⟨⟨t210, t213⟩, A80, H⟩ := H
 replace H : ((redpencilref14_Same.f k t210 l5).bind fun t214 => (if t214 = true then (some (t213 == a6)) else (some false))) = some r := H
 have A8 := Aside0.mk A80
 clear A80
 replace H := Option.bind_eq_some_iff.mp H
 obtain ⟨t214, A90, H⟩ := H
 replace H : (if t214 = true then (some (t213 == a6)) else (some false)) = some r := H
 have A9 := Aside0.mk A90
 clear A90
 by_cases c10 : t214 = true
 ·
  subst c10
  have H1 : (some (t213 == a6)) = some r := by rw [if_pos rfl] at H; exact H
  clear H
  have H := H1
  clear H1
  obtain rfl := Option.some.inj H
  go_enter Tryz.func21, Tryz.ntmps21
  go_wp2_with (first | ((with_reducible refine gate_dst (N := 8) rfl ?_); refine box_event ?hg (N := 8) ?hd (cs := #[.int .i64 a1_0, .int .i64 a1_1]) (t := 25) ?hr ?_; (case hd => rfl); (case hg => rfl); (case hr => first | (go_simp; done) | (go_simp; rfl)); intro gb209 hg w11 hbox hb; have n0_ := Aside0.mk (below_step (by repeat (first | (with_reducible first | exact HB.out | apply below_alloc | apply pw_below_drewN | apply below_drew1) | exact HB.out)) hb); have n1_ := Aside0.mk (hbox); have n2_ := Aside0.mk ((by rw [hg]; exact (below_size (by repeat (first | (with_reducible first | exact HB.out | apply below_alloc | apply pw_below_drewN | apply below_drew1) | exact HB.out))) : w.heap.size ≤ gb209)); have n3_ := Aside0.mk ((by rw [hg]; exact (below_size (by repeat (first | (with_reducible first | exact HB.out | apply below_alloc | apply pw_below_drewN | apply below_drew1) | exact HB.out))) : w.heap.size ≤ gb209)); clear HB; have HB := n0_; have BK209 := n1_; have GW209 := n2_; have GE209 := n3_; clear n0_ n1_ n2_ n3_; clear hb hbox hg; have hcz12_0 : w11.cell? ⟨gb209, 0, none⟩ = some (.int .i64 a1_0) := (blk_cell BK209.out 0).trans rfl; have hcz12_1 : w11.cell? ⟨gb209, 1, none⟩ = some (.int .i64 a1_1) := (blk_cell BK209.out 1).trans rfl; have hfz12_0 := blk_frozen BK209.out 0; have hfz12_1 := blk_frozen BK209.out 1) | ((with_reducible refine gate_callee (f := 22) rfl ?_); refine goesL_ (some 23) rfl rfl Tryz.func22 (by kernel_rfl) rfl #[.slice A0 l0.length c0, .agg #[.int .i64 a1_0, .int .i64 a1_1], .int .i64 a2, .int .i64 a3, .slice A4 l4.length c4] rfl (by (try simp only [List.map_toArray, List.map_cons, List.map_nil]); first | done | rfl | (simp only [List.length_drop, List.length_take]; rfl)) ?_; (with_reducible refine (edit_Replace.calls _ _ l0 a1_0 a1_1 a2 a3 _ _ l4 t210 t213 _ ?side1 ?side2 ?side3 ?side4 A8.out).mono ?_); (case side1 => repeat (first | exact (Kd.C_below HR0.out HB.out) | (with_reducible refine Kd.C_alloc ?_ _) | (with_reducible refine Kd.C_drewN ?_ _) | (with_reducible refine Kd.C_drew ?_))); (case side2 => exact HC0.out); (case side3 => repeat (first | exact (Kd.C_below HR4.out HB.out) | (with_reducible refine Kd.C_alloc ?_ _) | (with_reducible refine Kd.C_drewN ?_ _) | (with_reducible refine Kd.C_drew ?_))); (case side4 => exact HC4.out); rintro e w13 ⟨v211, rfl, ho0, hb⟩; refine ⟨_, rfl, ?_⟩; have n0_ := Aside0.mk (Kd.R_lower ho0 (below_size (by repeat (first | (with_reducible first | exact HB.out | apply below_alloc | apply pw_below_drewN | apply below_drew1 | refine below_set ?_ GE209.out) | exact HB.out)))); have n1_ := Aside0.mk (blk_below (g := gb209) (o := .cells #[.int .i64 a1_0, .int .i64 a1_1] 25 (0, 0)) (by (with_reducible repeat (first | refine blk_drewN ?_ _ | refine blk_drew ?_ | refine blk_alloc ?_ _)); exact BK209.out) hb); have n2_ := Aside0.mk (below_step (by repeat (first | (with_reducible first | exact HB.out | apply below_alloc | apply pw_below_drewN | apply below_drew1 | refine below_set ?_ GE209.out) | exact HB.out)) hb); clear BK209; clear HB; have HO212 := n0_; have BK209 := n1_; have HB := n2_; clear n0_ n1_ n2_; (try clear hb); (try clear hb2); (try clear hk); (try clear hi); (try clear ho0); obtain ⟨Ao14, co14, eo14⟩ := Kd.R_slice HO212.out; subst eo14) | ((with_reducible refine gate_callee (f := 20) rfl ?_); refine goesL_ (some 28) rfl rfl Tryz.func20 (by kernel_rfl) rfl #[.slice Ao14 t210.length co14, .slice A5 l5.length c5] rfl (by (try simp only [List.map_toArray, List.map_cons, List.map_nil]); first | done | rfl | (simp only [List.length_drop, List.length_take]; rfl)) ?_; (with_reducible refine (redpencilref14_Same.calls k _ _ t210 _ _ l5 true _ ?side1 ?side2 ?side3 ?side4 A9.out).mono ?_); (case side1 => repeat (first | exact (Kd.R_reads' HO212.out).2.2 | (with_reducible refine Kd.C_alloc ?_ _) | (with_reducible refine Kd.C_drewN ?_ _) | (with_reducible refine Kd.C_drew ?_))); (case side2 => exact (Kd.R_reads' HO212.out).2.1); (case side3 => repeat (first | exact (Kd.C_below HR5.out HB.out) | (with_reducible refine Kd.C_alloc ?_ _) | (with_reducible refine Kd.C_drewN ?_ _) | (with_reducible refine Kd.C_drew ?_))); (case side4 => exact HC5.out); rintro e w' ⟨rfl, ⟨nd, rfl⟩⟩; refine ⟨_, rfl, ?_⟩))
  go_ret
  exact ⟨by first | rfl | (simp [errW_none, errW_some] <;> rfl) | (simp [*, errW_none, errW_some] <;> rfl), by repeat (first | (with_reducible first | exact HB.out | apply below_alloc | apply pw_below_drewN | apply below_drew1 | refine below_set ?_ GE209.out) | exact HB.out)⟩
 ·
  replace c10 := Bool.eq_false_iff.mpr c10
  subst c10
  have H1 : (some false) = some r := by rw [if_neg (show ¬ (false = true) by decide)] at H; exact H
  clear H
  have H := H1
  clear H1
  obtain rfl := Option.some.inj H
  go_enter Tryz.func21, Tryz.ntmps21
  go_wp2_with (first | ((with_reducible refine gate_dst (N := 8) rfl ?_); refine box_event ?hg (N := 8) ?hd (cs := #[.int .i64 a1_0, .int .i64 a1_1]) (t := 25) ?hr ?_; (case hd => rfl); (case hg => rfl); (case hr => first | (go_simp; done) | (go_simp; rfl)); intro gb209 hg w15 hbox hb; have n0_ := Aside0.mk (below_step (by repeat (first | (with_reducible first | exact HB.out | apply below_alloc | apply pw_below_drewN | apply below_drew1) | exact HB.out)) hb); have n1_ := Aside0.mk (hbox); have n2_ := Aside0.mk ((by rw [hg]; exact (below_size (by repeat (first | (with_reducible first | exact HB.out | apply below_alloc | apply pw_below_drewN | apply below_drew1) | exact HB.out))) : w.heap.size ≤ gb209)); have n3_ := Aside0.mk ((by rw [hg]; exact (below_size (by repeat (first | (with_reducible first | exact HB.out | apply below_alloc | apply pw_below_drewN | apply below_drew1) | exact HB.out))) : w.heap.size ≤ gb209)); clear HB; have HB := n0_; have BK209 := n1_; have GW209 := n2_; have GE209 := n3_; clear n0_ n1_ n2_ n3_; clear hb hbox hg; have hcz16_0 : w15.cell? ⟨gb209, 0, none⟩ = some (.int .i64 a1_0) := (blk_cell BK209.out 0).trans rfl; have hcz16_1 : w15.cell? ⟨gb209, 1, none⟩ = some (.int .i64 a1_1) := (blk_cell BK209.out 1).trans rfl; have hfz16_0 := blk_frozen BK209.out 0; have hfz16_1 := blk_frozen BK209.out 1) | ((with_reducible refine gate_callee (f := 22) rfl ?_); refine goesL_ (some 23) rfl rfl Tryz.func22 (by kernel_rfl) rfl #[.slice A0 l0.length c0, .agg #[.int .i64 a1_0, .int .i64 a1_1], .int .i64 a2, .int .i64 a3, .slice A4 l4.length c4] rfl (by (try simp only [List.map_toArray, List.map_cons, List.map_nil]); first | done | rfl | (simp only [List.length_drop, List.length_take]; rfl)) ?_; (with_reducible refine (edit_Replace.calls _ _ l0 a1_0 a1_1 a2 a3 _ _ l4 t210 t213 _ ?side1 ?side2 ?side3 ?side4 A8.out).mono ?_); (case side1 => repeat (first | exact (Kd.C_below HR0.out HB.out) | (with_reducible refine Kd.C_alloc ?_ _) | (with_reducible refine Kd.C_drewN ?_ _) | (with_reducible refine Kd.C_drew ?_))); (case side2 => exact HC0.out); (case side3 => repeat (first | exact (Kd.C_below HR4.out HB.out) | (with_reducible refine Kd.C_alloc ?_ _) | (with_reducible refine Kd.C_drewN ?_ _) | (with_reducible refine Kd.C_drew ?_))); (case side4 => exact HC4.out); rintro e w17 ⟨v211, rfl, ho0, hb⟩; refine ⟨_, rfl, ?_⟩; have n0_ := Aside0.mk (Kd.R_lower ho0 (below_size (by repeat (first | (with_reducible first | exact HB.out | apply below_alloc | apply pw_below_drewN | apply below_drew1 | refine below_set ?_ GE209.out) | exact HB.out)))); have n1_ := Aside0.mk (blk_below (g := gb209) (o := .cells #[.int .i64 a1_0, .int .i64 a1_1] 25 (0, 0)) (by (with_reducible repeat (first | refine blk_drewN ?_ _ | refine blk_drew ?_ | refine blk_alloc ?_ _)); exact BK209.out) hb); have n2_ := Aside0.mk (below_step (by repeat (first | (with_reducible first | exact HB.out | apply below_alloc | apply pw_below_drewN | apply below_drew1 | refine below_set ?_ GE209.out) | exact HB.out)) hb); clear BK209; clear HB; have HO212 := n0_; have BK209 := n1_; have HB := n2_; clear n0_ n1_ n2_; (try clear hb); (try clear hb2); (try clear hk); (try clear hi); (try clear ho0); obtain ⟨Ao18, co18, eo18⟩ := Kd.R_slice HO212.out; subst eo18) | ((with_reducible refine gate_callee (f := 20) rfl ?_); refine goesL_ (some 28) rfl rfl Tryz.func20 (by kernel_rfl) rfl #[.slice Ao18 t210.length co18, .slice A5 l5.length c5] rfl (by (try simp only [List.map_toArray, List.map_cons, List.map_nil]); first | done | rfl | (simp only [List.length_drop, List.length_take]; rfl)) ?_; (with_reducible refine (redpencilref14_Same.calls k _ _ t210 _ _ l5 false _ ?side1 ?side2 ?side3 ?side4 A9.out).mono ?_); (case side1 => repeat (first | exact (Kd.R_reads' HO212.out).2.2 | (with_reducible refine Kd.C_alloc ?_ _) | (with_reducible refine Kd.C_drewN ?_ _) | (with_reducible refine Kd.C_drew ?_))); (case side2 => exact (Kd.R_reads' HO212.out).2.1); (case side3 => repeat (first | exact (Kd.C_below HR5.out HB.out) | (with_reducible refine Kd.C_alloc ?_ _) | (with_reducible refine Kd.C_drewN ?_ _) | (with_reducible refine Kd.C_drew ?_))); (case side4 => exact HC5.out); rintro e w' ⟨rfl, ⟨nd, rfl⟩⟩; refine ⟨_, rfl, ?_⟩))
  go_ret
  exact ⟨by first | rfl | (simp [errW_none, errW_some] <;> rfl) | (simp [*, errW_none, errW_some] <;> rfl), by repeat (first | (with_reducible first | exact HB.out | apply below_alloc | apply pw_below_drewN | apply below_drew1 | refine below_set ?_ GE209.out) | exact HB.out)⟩
def redpencillaw15_dot.f (a0 : Int) (a1 : Int) : Option (Int × Int) := some (a0, a1)
set_option maxHeartbeats 8000000 in
set_option maxRecDepth 100000 in
theorem redpencillaw15_dot.calls (a0 : Int) (a1 : Int) (r1 : Int) (r2 : Int) (w : World) (h : redpencillaw15_dot.f a0 a1 = some (r1, r2)) :
  Calls Tryz.prog 32 #[.int .i64 a0, .int .i64 a1] w fun e w' => e = .returned (.agg #[.int .i64 r1, .int .i64 r2]) ∧ Below w.heap.size w w' := by
 have hu25 := Tryz.underlying25
 have HB := Aside0.mk (Below.refl w.heap.size w)
 have H : (some (a0, a1)) = some (r1, r2) := h
 clear h
 simp only [Option.some.injEq, Prod.mk.injEq] at H
 obtain ⟨rfl, rfl⟩ := H
 go_enter Tryz.func32, Tryz.ntmps32
 go_wp2_with (first | ((with_reducible refine gate_dst (N := 4) rfl ?_); refine box_event ?hg (N := 4) ?hd (cs := #[.int .i64 0, .int .i64 0]) (t := 25) ?hr ?_; (case hd => rfl); (case hg => rfl); (case hr => first | (go_simp; done) | (go_simp; rfl)); intro gb215 hg w3 hbox hb; have n0_ := Aside0.mk (below_step (by repeat (first | (with_reducible first | exact HB.out | apply below_alloc | apply pw_below_drewN | apply below_drew1) | exact HB.out)) hb); have n1_ := Aside0.mk (hbox); have n2_ := Aside0.mk ((by rw [hg]; exact (below_size (by repeat (first | (with_reducible first | exact HB.out | apply below_alloc | apply pw_below_drewN | apply below_drew1) | exact HB.out))) : w.heap.size ≤ gb215)); have n3_ := Aside0.mk ((by rw [hg]; exact (below_size (by repeat (first | (with_reducible first | exact HB.out | apply below_alloc | apply pw_below_drewN | apply below_drew1) | exact HB.out))) : w.heap.size ≤ gb215)); clear HB; have HB := n0_; have BK215 := n1_; have GW215 := n2_; have GE215 := n3_; clear n0_ n1_ n2_ n3_; clear hb hbox hg; have hcz4_0 : w3.cell? ⟨gb215, 0, none⟩ = some (.int .i64 0) := (blk_cell BK215.out 0).trans rfl; have hcz4_1 : w3.cell? ⟨gb215, 1, none⟩ = some (.int .i64 0) := (blk_cell BK215.out 1).trans rfl; have hfz4_0 := blk_frozen BK215.out 0; have hfz4_1 := blk_frozen BK215.out 1))
 refine bodyPost_ret (results_cell_row rfl _ _ gb215 25 #[.int .i64 a0, .int .i64 a1] (0, 0) _ rfl (by (with_reducible repeat (first | refine blk_drewN ?_ _ | refine blk_drew ?_ | refine blk_alloc ?_ _)); refine blk_put (cs := #[.int .i64 a0, .int .i64 0]) ?_ 1 _ rfl; (with_reducible repeat (first | refine blk_drewN ?_ _ | refine blk_drew ?_ | refine blk_alloc ?_ _)); refine blk_put (cs := #[.int .i64 0, .int .i64 0]) ?_ 0 _ rfl; (with_reducible repeat (first | refine blk_drewN ?_ _ | refine blk_drew ?_ | refine blk_alloc ?_ _)); exact BK215.out) Tryz.underlying25 rfl (by kernel_rfl)) rfl ?_
 exact ⟨by first | rfl | (simp [errW_none, errW_some] <;> rfl) | (simp [*, errW_none, errW_some] <;> rfl), by repeat (first | (with_reducible first | exact HB.out | apply below_alloc | apply pw_below_drewN | apply below_drew1 | refine below_set ?_ GE215.out) | exact HB.out)⟩
end Go.Proofs.YtmbndijbpgobeaaGreat.PWalk
end
section
namespace Go.Proofs.YtmbndijbpgobeaaGreat.PWalk
open Go.RowKit Go.Proofs.YtmbndijbpgobeaaGreatW.PrintWords Go.Proofs.YtmbndijbpgobeaaGreatW.PrintLast Go.Proofs.YtmbndijbpgobeaaGreatW.PrintMore
attribute [local go_sem] max2_int max_two
set_option linter.unusedVariables false
set_option linter.unusedSimpArgs false
def edit_Apply.f (k : Nat) (l0 : List (S53)) (l1 : List (S53)) : Option ((List (S53)) × List Int × Int) := (join_Join.f l0 l1).bind fun bt225 => (if bt225.2 = 0 then ((index_Runes.f k bt225.1).bind fun bt229 => (if bt229.2 = 0 then (some (bt225.1, bt229.1, 0)) else (some (([] : List (S53)), ([] : List Int), bt229.2)))) else (some (([] : List (S53)), ([] : List Int), bt225.2)))
set_option maxHeartbeats 8000000 in
set_option maxRecDepth 100000 in
theorem edit_Apply.calls (k : Nat) (A0 : Option Addr) (c0 : Nat) (l0 : List (S53)) (A1 : Option Addr) (c1 : Nat) (l1 : List (S53)) (r1 : List (S53)) (r2 : List Int) (r3 : Int) (w : World) (hr0 : Kd.C k53 w A0 l0.length l0) (hc0 : l0.length ≤ c0) (hr1 : Kd.C k53 w A1 l1.length l1) (hc1 : l1.length ≤ c1) (h : edit_Apply.f k l0 l1 = some (r1, r2, r3)) :
  Calls Tryz.prog 25 #[.slice A0 l0.length c0, .slice A1 l1.length c1] w fun e w' => ∃ v0_ v1_ : Value, e = .returned (.tuple #[v0_, v1_, .int .i64 r3]) ∧ Kd.R k53 53 w' w.heap.size (fun _ => True) v0_ r1 ∧ Kd.R (Kd.int .i32) 21 w' w.heap.size (fun _ => True) v1_ r2 ∧ Below w.heap.size w w' := by
 have HR0 := Aside0.mk hr0
 have HC0 := Aside0.mk hc0
 clear hr0 hc0
 have HR1 := Aside0.mk hr1
 have HC1 := Aside0.mk hc1
 clear hr1 hc1
 have HB := Aside0.mk (Below.refl w.heap.size w)
 have H : ((join_Join.f l0 l1).bind fun bt225 => (if bt225.2 = 0 then ((index_Runes.f k bt225.1).bind fun bt229 => (if bt229.2 = 0 then (some (bt225.1, bt229.1, 0)) else (some (([] : List (S53)), ([] : List Int), bt229.2)))) else (some (([] : List (S53)), ([] : List Int), bt225.2)))) = some (r1, r2, r3) := h
 clear h
 replace H := Option.bind_eq_some_iff.mp H
 obtain ⟨⟨t225, t226⟩, A30, H⟩ := H
 replace H : (if t226 = 0 then ((index_Runes.f k t225).bind fun bt229 => (if bt229.2 = 0 then (some (t225, bt229.1, 0)) else (some (([] : List (S53)), ([] : List Int), bt229.2)))) else (some (([] : List (S53)), ([] : List Int), t226))) = some (r1, r2, r3) := H
 have A3 := Aside0.mk A30
 clear A30
 by_cases c4 : t226 = 0
 ·
  rw [if_pos c4] at H
  have c4b0 : (t226 == 0) = true := beq_iff_eq.mpr c4
  have c4b1 : (t226 != 0) = false := bne_eq_false_iff_eq.mpr c4
  clear c4
  replace H := Option.bind_eq_some_iff.mp H
  obtain ⟨⟨t229, t230⟩, A50, H⟩ := H
  replace H : (if t230 = 0 then (some (t225, t229, 0)) else (some (([] : List (S53)), ([] : List Int), t230))) = some (r1, r2, r3) := H
  have A5 := Aside0.mk A50
  clear A50
  by_cases c6 : t230 = 0
  ·
   rw [if_pos c6] at H
   have c6b0 : (t230 == 0) = true := beq_iff_eq.mpr c6
   have c6b1 : (t230 != 0) = false := bne_eq_false_iff_eq.mpr c6
   clear c6
   simp only [Option.some.injEq, Prod.mk.injEq] at H
   obtain ⟨rfl, rfl, rfl⟩ := H
   go_enter Tryz.func25, Tryz.ntmps25
   go_wp2_with (first | ((with_reducible refine gate_callee (f := 54) rfl ?_); refine goesL_ (some 13) rfl rfl Tryz.func54 (by kernel_rfl) rfl #[.slice A0 l0.length c0, .slice A1 l1.length c1] rfl (by (try simp only [List.map_toArray, List.map_cons, List.map_nil]); first | done | rfl | (simp only [List.length_drop, List.length_take]; rfl)) ?_; (with_reducible refine (join_Join.calls _ _ l0 _ _ l1 t225 t226 _ ?side1 ?side2 ?side3 ?side4 A3.out).mono ?_); (case side1 => repeat (first | exact HR0.out | (with_reducible refine Kd.C_alloc ?_ _) | (with_reducible refine Kd.C_drewN ?_ _) | (with_reducible refine Kd.C_drew ?_))); (case side2 => exact HC0.out); (case side3 => repeat (first | exact HR1.out | (with_reducible refine Kd.C_alloc ?_ _) | (with_reducible refine Kd.C_drewN ?_ _) | (with_reducible refine Kd.C_drew ?_))); (case side4 => exact HC1.out); rintro e w7 ⟨v227, rfl, ho0, hb⟩; refine ⟨_, rfl, ?_⟩; have n0_ := Aside0.mk (Kd.R_lower ho0 (below_size (by repeat (first | (with_reducible first | exact HB.out | apply below_alloc | apply pw_below_drewN | apply below_drew1) | exact HB.out)))); have n1_ := Aside0.mk (below_step (by repeat (first | (with_reducible first | exact HB.out | apply below_alloc | apply pw_below_drewN | apply below_drew1) | exact HB.out)) hb); clear HB; have HO228 := n0_; have HB := n1_; clear n0_ n1_; (try clear hb); (try clear hb2); (try clear hk); (try clear hi); (try clear ho0); obtain ⟨Ao8, co8, eo8⟩ := Kd.R_slice HO228.out; subst eo8) | ((with_reducible refine gate_callee (f := 56) rfl ?_); refine goesL_ (some 21) rfl rfl Tryz.func56 (by kernel_rfl) rfl #[.slice Ao8 t225.length co8] rfl (by (try simp only [List.map_toArray, List.map_cons, List.map_nil]); first | done | rfl | (simp only [List.length_drop, List.length_take]; rfl)) ?_; (with_reducible refine (index_Runes.calls k _ _ t225 t229 t230 _ ?side1 ?side2 A5.out).mono ?_); (case side1 => repeat (first | exact (Kd.R_reads' HO228.out).2.2 | (with_reducible refine Kd.C_alloc ?_ _) | (with_reducible refine Kd.C_drewN ?_ _) | (with_reducible refine Kd.C_drew ?_))); (case side2 => exact (Kd.R_reads' HO228.out).2.1); rintro e w9 ⟨v231, rfl, ho0, hb⟩; refine ⟨_, rfl, ?_⟩; have n0_ := Aside0.mk (Kd.R_below (by (with_reducible repeat (first | apply Kd.R_alloc | apply Kd.R_drewN | apply Kd.R_drew)); exact HO228.out) hb); have n1_ := Aside0.mk (Kd.R_lower ho0 (below_size (by repeat (first | (with_reducible first | exact HB.out | apply below_alloc | apply pw_below_drewN | apply below_drew1) | exact HB.out)))); have n2_ := Aside0.mk (below_step (by repeat (first | (with_reducible first | exact HB.out | apply below_alloc | apply pw_below_drewN | apply below_drew1) | exact HB.out)) hb); clear HO228; clear HB; have HO228 := n0_; have HO232 := n1_; have HB := n2_; clear n0_ n1_ n2_; (try clear hb); (try clear hb2); (try clear hk); (try clear hi); (try clear ho0)))
   go_ret3
   exact ⟨_, _, by first | rfl | (simp [errW_none, errW_some] <;> rfl) | (simp [*, errW_none, errW_some] <;> rfl), by (with_reducible repeat (first | apply Kd.R_alloc | apply Kd.R_drewN | apply Kd.R_drew)); exact HO228.out, by (with_reducible repeat (first | apply Kd.R_alloc | apply Kd.R_drewN | apply Kd.R_drew)); exact HO232.out, by repeat (first | (with_reducible first | exact HB.out | apply below_alloc | apply pw_below_drewN | apply below_drew1) | exact HB.out)⟩
  ·
   rw [if_neg c6] at H
   have c6b0 : (t230 == 0) = false := beq_eq_false_iff_ne.mpr c6
   have c6b1 : (t230 != 0) = true := bne_iff_ne.mpr c6
   simp only [Option.some.injEq, Prod.mk.injEq] at H
   obtain ⟨rfl, rfl, rfl⟩ := H
   go_enter Tryz.func25, Tryz.ntmps25
   go_wp2_with (first | ((with_reducible refine gate_callee (f := 54) rfl ?_); refine goesL_ (some 13) rfl rfl Tryz.func54 (by kernel_rfl) rfl #[.slice A0 l0.length c0, .slice A1 l1.length c1] rfl (by (try simp only [List.map_toArray, List.map_cons, List.map_nil]); first | done | rfl | (simp only [List.length_drop, List.length_take]; rfl)) ?_; (with_reducible refine (join_Join.calls _ _ l0 _ _ l1 t225 t226 _ ?side1 ?side2 ?side3 ?side4 A3.out).mono ?_); (case side1 => repeat (first | exact HR0.out | (with_reducible refine Kd.C_alloc ?_ _) | (with_reducible refine Kd.C_drewN ?_ _) | (with_reducible refine Kd.C_drew ?_))); (case side2 => exact HC0.out); (case side3 => repeat (first | exact HR1.out | (with_reducible refine Kd.C_alloc ?_ _) | (with_reducible refine Kd.C_drewN ?_ _) | (with_reducible refine Kd.C_drew ?_))); (case side4 => exact HC1.out); rintro e w10 ⟨v227, rfl, ho0, hb⟩; refine ⟨_, rfl, ?_⟩; have n0_ := Aside0.mk (Kd.R_lower ho0 (below_size (by repeat (first | (with_reducible first | exact HB.out | apply below_alloc | apply pw_below_drewN | apply below_drew1) | exact HB.out)))); have n1_ := Aside0.mk (below_step (by repeat (first | (with_reducible first | exact HB.out | apply below_alloc | apply pw_below_drewN | apply below_drew1) | exact HB.out)) hb); clear HB; have HO228 := n0_; have HB := n1_; clear n0_ n1_; (try clear hb); (try clear hb2); (try clear hk); (try clear hi); (try clear ho0); obtain ⟨Ao11, co11, eo11⟩ := Kd.R_slice HO228.out; subst eo11) | ((with_reducible refine gate_callee (f := 56) rfl ?_); refine goesL_ (some 21) rfl rfl Tryz.func56 (by kernel_rfl) rfl #[.slice Ao11 t225.length co11] rfl (by (try simp only [List.map_toArray, List.map_cons, List.map_nil]); first | done | rfl | (simp only [List.length_drop, List.length_take]; rfl)) ?_; (with_reducible refine (index_Runes.calls k _ _ t225 t229 t230 _ ?side1 ?side2 A5.out).mono ?_); (case side1 => repeat (first | exact (Kd.R_reads' HO228.out).2.2 | (with_reducible refine Kd.C_alloc ?_ _) | (with_reducible refine Kd.C_drewN ?_ _) | (with_reducible refine Kd.C_drew ?_))); (case side2 => exact (Kd.R_reads' HO228.out).2.1); rintro e w12 ⟨v231, rfl, ho0, hb⟩; refine ⟨_, rfl, ?_⟩; have n0_ := Aside0.mk (Kd.R_below (by (with_reducible repeat (first | apply Kd.R_alloc | apply Kd.R_drewN | apply Kd.R_drew)); exact HO228.out) hb); have n1_ := Aside0.mk (Kd.R_lower ho0 (below_size (by repeat (first | (with_reducible first | exact HB.out | apply below_alloc | apply pw_below_drewN | apply below_drew1) | exact HB.out)))); have n2_ := Aside0.mk (below_step (by repeat (first | (with_reducible first | exact HB.out | apply below_alloc | apply pw_below_drewN | apply below_drew1) | exact HB.out)) hb); clear HO228; clear HB; have HO228 := n0_; have HO232 := n1_; have HB := n2_; clear n0_ n1_ n2_; (try clear hb); (try clear hb2); (try clear hk); (try clear hi); (try clear ho0)))
   go_ret3
   exact ⟨_, _, by first | rfl | (simp [errW_none, errW_some] <;> rfl) | (simp [*, errW_none, errW_some] <;> rfl), by first | exact Kd.R_nil _ _ _ _ _ | exact Kd.N_nil _ _ _ _ _ | exact Kd.V_nil _ _ _ _ _ | exact Kd.Q_nil _ _ _ _ _ | exact Kd.S_nil _ _ _ _ _, by first | exact Kd.R_nil _ _ _ _ _ | exact Kd.N_nil _ _ _ _ _ | exact Kd.V_nil _ _ _ _ _ | exact Kd.Q_nil _ _ _ _ _ | exact Kd.S_nil _ _ _ _ _, by repeat (first | (with_reducible first | exact HB.out | apply below_alloc | apply pw_below_drewN | apply below_drew1) | exact HB.out)⟩
 ·
  rw [if_neg c4] at H
  have c4b0 : (t226 == 0) = false := beq_eq_false_iff_ne.mpr c4
  have c4b1 : (t226 != 0) = true := bne_iff_ne.mpr c4
  simp only [Option.some.injEq, Prod.mk.injEq] at H
  obtain ⟨rfl, rfl, rfl⟩ := H
  go_enter Tryz.func25, Tryz.ntmps25
  go_wp2_with (first | ((with_reducible refine gate_callee (f := 54) rfl ?_); refine goesL_ (some 13) rfl rfl Tryz.func54 (by kernel_rfl) rfl #[.slice A0 l0.length c0, .slice A1 l1.length c1] rfl (by (try simp only [List.map_toArray, List.map_cons, List.map_nil]); first | done | rfl | (simp only [List.length_drop, List.length_take]; rfl)) ?_; (with_reducible refine (join_Join.calls _ _ l0 _ _ l1 t225 t226 _ ?side1 ?side2 ?side3 ?side4 A3.out).mono ?_); (case side1 => repeat (first | exact HR0.out | (with_reducible refine Kd.C_alloc ?_ _) | (with_reducible refine Kd.C_drewN ?_ _) | (with_reducible refine Kd.C_drew ?_))); (case side2 => exact HC0.out); (case side3 => repeat (first | exact HR1.out | (with_reducible refine Kd.C_alloc ?_ _) | (with_reducible refine Kd.C_drewN ?_ _) | (with_reducible refine Kd.C_drew ?_))); (case side4 => exact HC1.out); rintro e w13 ⟨v227, rfl, ho0, hb⟩; refine ⟨_, rfl, ?_⟩; have n0_ := Aside0.mk (Kd.R_lower ho0 (below_size (by repeat (first | (with_reducible first | exact HB.out | apply below_alloc | apply pw_below_drewN | apply below_drew1) | exact HB.out)))); have n1_ := Aside0.mk (below_step (by repeat (first | (with_reducible first | exact HB.out | apply below_alloc | apply pw_below_drewN | apply below_drew1) | exact HB.out)) hb); clear HB; have HO228 := n0_; have HB := n1_; clear n0_ n1_; (try clear hb); (try clear hb2); (try clear hk); (try clear hi); (try clear ho0)))
  go_ret3
  exact ⟨_, _, by first | rfl | (simp [errW_none, errW_some] <;> rfl) | (simp [*, errW_none, errW_some] <;> rfl), by first | exact Kd.R_nil _ _ _ _ _ | exact Kd.N_nil _ _ _ _ _ | exact Kd.V_nil _ _ _ _ _ | exact Kd.Q_nil _ _ _ _ _ | exact Kd.S_nil _ _ _ _ _, by first | exact Kd.R_nil _ _ _ _ _ | exact Kd.N_nil _ _ _ _ _ | exact Kd.V_nil _ _ _ _ _ | exact Kd.Q_nil _ _ _ _ _ | exact Kd.S_nil _ _ _ _ _, by repeat (first | (with_reducible first | exact HB.out | apply below_alloc | apply pw_below_drewN | apply below_drew1) | exact HB.out)⟩
end Go.Proofs.YtmbndijbpgobeaaGreat.PWalk
end
section
namespace Go.Proofs.YtmbndijbpgobeaaGreat.PWalk
open Go.RowKit Go.Proofs.YtmbndijbpgobeaaGreatW.PrintWords Go.Proofs.YtmbndijbpgobeaaGreatW.PrintLast Go.Proofs.YtmbndijbpgobeaaGreatW.PrintMore
set_option linter.unusedVariables false
set_option linter.unusedSimpArgs false
open Go.Shelf
attribute [local go_sem] Oper.semAt_some
def xA : Node := ⟨⟨1, 1⟩, ⟨0, 0⟩, 1, 97⟩
def xB : Node := ⟨⟨1, 2⟩, ⟨1, 1⟩, 2, 0⟩
def xC : Node := ⟨⟨1, 3⟩, ⟨1, 2⟩, 3, 99⟩
def xG : Node := ⟨⟨1, 1⟩, ⟨0, 0⟩, 1, 0⟩
def xL : Node := ⟨⟨1, 3⟩, ⟨1, 2⟩, 3, 0⟩
def xX : Node := ⟨⟨2, 1⟩, ⟨1, 1⟩, 4, 120⟩
def xY : Node := ⟨⟨2, 2⟩, ⟨2, 1⟩, 5, 121⟩
def xZ : Node := ⟨⟨2, 1⟩, ⟨0, 0⟩, 4, 122⟩
theorem kn15_0 : redpencillaw15_inserts.f 60 [xA, xB, xC] 2 1 1 [120, 121] [xX, xY] 0 = some true := by kernel_rfl
theorem kn15_1 : edit_Apply.f 60 [xA, xB, xC] [xX, xY] = some ([xA, xX, xB, xY, xC], [97, 120, 121, 99], 0) := by kernel_rfl
theorem kn15_2 : redpencillaw15_deletes.f 60 [xA, xB, xC] 1 1 [xL] 0 = some true := by kernel_rfl
theorem kn15_3 : redpencillaw15_replaces.f 60 [xA, xB, xC] 2 1 0 2 [122] [xG, xZ, xL] 0 = some true := by kernel_rfl
theorem kn15_4 : edit_Apply.f 60 [xA, xB, xC] [xG, xZ, xL] = some ([xG, xZ, xB, xL], [122], 0) := by kernel_rfl
theorem kn15_5 : redpencillaw15_inserts.f 60 [xA, xB, xC] 2 1 3 [120] [] 3 = some true := by kernel_rfl
theorem kn15_6 : redpencillaw15_inserts.f 60 [xA, xB, xC] 1 1 0 [120] [] 11 = some true := by kernel_rfl
theorem kn15_7 : redpencillaw15_inserts.f 60 [xA, xB, xC] 2 4294967295 0 [120, 121] [] 14 = some true := by kernel_rfl
theorem kn15_8 : redpencillaw15_inserts.f 60 [xA, xB, xC] 2 1 0 [0] [] 13 = some true := by kernel_rfl
theorem kn15_9 : redpencillaw15_deletes.f 60 [xA, xB, xC] 0 3 [] 3 = some true := by kernel_rfl
theorem kn15_10 : edit_Latest.f 60 [xA, xB, xC] = some 3 := by kernel_rfl
theorem lit_nodes (W : World) (base : Nat) (hb : base ≤ W.heap.size) (xs : List Node) (n : Nat) (hn : xs.length = n) (hp : 0 < n) (hm : n ≤ 1000000) (cs : Array Value) (hcs : cs.toList = cellsOf xs) :
  Kd.R k53 53 (W.alloc (.cells cs 53 (0, 0))) base (fun _ => True) (.slice (some ⟨W.heap.size, 0, none⟩) n n) xs := by
 subst hn
 have hsz : cs.size = xs.length * 6 := by rw [← Array.length_toList, hcs, cellsOf_length]
 refine R_of_cells ⟨cellsOf_length _, .inr ⟨W.heap.size, xs.length, cs, rfl, hb, blk_new _ _, Nat.le_refl _, (show xs.length ≤ 9223372036854775807 by omega), hsz, ?_⟩⟩ (fun _ _ => trivial)
 rw [← hcs, List.take_of_length_le (by rw [Array.length_toList]; omega)]
end Go.Proofs.YtmbndijbpgobeaaGreat.PWalk
end
