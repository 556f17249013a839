/-
  The law WalkPaths: the walk and the row. Part 11 of 12.
-/
import Derived.Test.YtjlpaagnajmogaaGreatPJ
section
namespace Go.Proofs.YtjlpaagnajmogaaGreat.PWalk
open Go.RowKit Go.Proofs.YtjlpaagnajmogaaGreatW.PrintWords Go.Proofs.YtjlpaagnajmogaaGreatW.PrintLast Go.Proofs.YtjlpaagnajmogaaGreatW.PrintMore
set_option linter.unusedVariables false
set_option linter.unusedSimpArgs false
open Go.Shelf
attribute [local go_sem] Oper.semAt_some
def redpencilref11_Below.f (l0 : List Node) (a1_0 a1_1 : Int) : Option (List Node) := if l0.length ≤ 400000 ∧ storeOk l0 = true ∧ (pathOf l0 ⟨a1_0, a1_1⟩).isSome = true then some (belowL l0 ⟨a1_0, a1_1⟩) else none
theorem belowL_le {l : List Node} (hs : Store l) {d : Dot} {U : List Node} (h : Path l d U) : (belowL l d).length ≤ l.length := by
 unfold belowL nds
 rw [List.length_map]
 exact below_le hs h 0
def upTo (l : List Node) (d : Dot) (i : Nat) : List Node := ((kids l d).take i).flatMap fun x => x :: belowL l x.f0
theorem upTo_succ {l : List Node} {d : Dot} {i : Nat} {x : Node} (h : (kids l d)[i]? = some x) : upTo l d (i + 1) = upTo l d i ++ [x] ++ belowL l x.f0 := by
 unfold upTo
 rw [List.take_succ_eq_append_getElem (List.getElem?_eq_some_iff.1 h).1, (List.getElem?_eq_some_iff.1 h).2, List.flatMap_append]
 simp
theorem upTo_le {l : List Node} (hs : Store l) {d : Dot} {U : List Node} (h : Path l d U) (i : Nat) : (upTo l d i).length ≤ l.length := by
 refine Nat.le_trans ?_ (belowL_le hs h)
 rw [belowL_kids hs h]
 conv => rhs; rw [← List.take_append_drop i (kids l d), List.flatMap_append, List.length_append]
 exact Nat.le_add_right _ _
/-- What has come up in a round. -/
structure RbF (W1 W0 : World) (u : Value) (out : List Node) (x : Node) (bl : List Node) (l0 l5 l6 l13 l14 l15 : Bool) (g : Nat) (v1 v2 v3 : Value) (V : World) : Prop where
 ord6 : l6 = true → l5 = true
 ord14 : l14 = true → l6 = true ∧ l13 = true
 ord15 : l15 = true → l14 = true ∧ l0 = true
 below : Below W1.heap.size W1 V
 size : W0.heap.size ≤ V.heap.size
 r0 : l6 = false → RN V W1.heap.size u out
 bx : l5 = true → l6 = false → V.heap[g]? = some (boxN x)
 r1 : l6 = true → l14 = false → RN V W1.heap.size v1 (out ++ [x])
 r2 : l13 = true → l14 = false → RN V W0.heap.size v2 bl
 r3 : l14 = true → RN V W1.heap.size v3 (out ++ [x] ++ bl)
def rb6Inv (W1 W0 : World) (A0 Ao : Option Addr) (ad : Addr) (n c0 no co q cc k : Nat) (x : Node) (out bl : List Node) (z1 z2 z3 z4 z8 z9 z10 z11 z12 z13 z14 z15 z16 z17 z18 z19 z20 z21 z22 z23 z24 z25 z26 z27 z28 z29 z30 z31 z32 : Value) (L : Array Bool) (ac : Act) (V : World) : Prop := ∃ (l0 l1 l2 l3 l4 l5 l6 l7 l8 l9 l10 l11 l12 l13 l14 l15 : Bool) (g : Nat) (v1 : Value) (v2 : Value) (v3 : Value), L = #[l0, l1, l2, l3, l4, l5, l6, l7, l8, l9, l10, l11, l12, l13, l14, l15] ∧ ac = { tmps := #[.slice A0 n c0, z1, z2, z3, z4, selv l15 (v3) (.slice Ao no co), .slice (some ad) q cc, .int .i64 (k : Int), z8, z9, z10, z11, z12, z13, z14, z15, z16, selv l0 (.slice Ao no co) (z17), selv l1 (.slice (some ad) q cc) (z18), selv l2 (.int .i64 (k : Int)) (z19), selv l3 (.pointer (some (ad.add (k * 6)))) (z20), selv l4 (vNode x) (z21), selv l5 (.slice (some ⟨g, 0, none⟩) 1 1) (z22), selv l6 (v1) (z23), selv l7 (.slice A0 n c0) (z24), selv l8 (.slice (some ad) q cc) (z25), selv l9 (.int .i64 (k : Int)) (z26), selv l10 (.pointer (some (ad.add (k * 6)))) (z27), selv l11 (.pointer (some (ad.add (k * 6)))) (z28), selv l12 (vDot x.f0) (z29), selv l13 (v2) (z30), selv l14 (v3) (z31), z32], defers := [] } ∧ Aside0 (RbF W1 W0 (.slice Ao no co) out x bl l0 l5 l6 l13 l14 l15 g v1 v2 v3 V)
set_option maxHeartbeats 4000000 in
set_option maxRecDepth 100000 in
theorem refBelow_step (A0 : Option Addr) (n c0 : Nat) (ll : List Node) (d : Dot) (U : List Node) (w : World) (hn : ll.length = n) (hl : n ≤ 400000) (hs : Store ll) (hU : Path ll d U) (hr0 : Kd.C k35 w A0 n ll) (hc0 : n ≤ c0)
  (IH : ∀ x ∈ kids ll d, ∀ W, Below w.heap.size w W → Calls Tryz.prog 31 #[.slice A0 n c0, vDot x.f0] W fun e w' => ∃ v, e = .returned v ∧ RN w' W.heap.size v (belowL ll x.f0) ∧ Below W.heap.size W w') :
  Calls Tryz.prog 31 #[.slice A0 n c0, vDot d] w fun e w' => ∃ v, e = .returned v ∧ RN w' w.heap.size v (belowL ll d) ∧ Below w.heap.size w w' := by
 have HIH := Aside0.mk IH
 have HS := Aside0.mk hs
 have HU := Aside0.mk hU
 have Hn := Aside0.mk hn
 have HB0 := Aside0.mk (Gr.alloc w (dotC d)).below
 have HK0 := Aside0.mk (blk_new w (dotC d))
 have hch := redpencilref11_Children.calls A0 c0 ll d.f0 d.f1 (kids ll d) (w.alloc (dotC d)) (by rw [hn]; exact Kd.C_below hr0 HB0.out) (by rw [hn]; exact hc0) (by unfold redpencilref11_Children.f; rw [if_pos (by omega)])
 rw [hn] at hch
 have HCH := Aside0.mk hch
 have k0 : (w.alloc (dotC d)).cell? ⟨w.heap.size, 0, none⟩ = _ := (blk_cell HK0.out 0).trans rfl
 have k1 : (w.alloc (dotC d)).cell? ⟨w.heap.size, 1, none⟩ = _ := (blk_cell HK0.out 1).trans rfl
 have HL := Aside0.mk hl
 clear IH hs hU hn hch hr0 hc0
 go_enter Tryz.func31, Tryz.ntmps31
 go_wp2_with fail
 refine HCH.out.mono ?_
 rintro e W1 ⟨uc, rfl, hrc, hb⟩
 have HB1 := Aside0.mk (below_more HB0.out hb)
 obtain ⟨Ac, cc, rfl⟩ := RN.slice hrc
 obtain ⟨q, hq⟩ : ∃ q, (kids ll d).length = q := ⟨_, rfl⟩
 rw [hq] at hrc ⊢
 have HRC := Aside0.mk hrc
 have HQ : Aside0 (q ≤ 400000) := ⟨by have h1 := kids_le ll d; have h2 := Hn.out; omega⟩
 clear hrc hb k0 k1 HK0 HB0 HCH hq
 have hq4 := HQ.out
 go_wp2
 go_loopw [5, 7] (fun o i wr => ∃ (k : Nat) (Ao : Option Addr) (no co : Nat), k ≤ q ∧ i = .int .i64 k ∧ o = .slice Ao no co ∧ Aside0 (RN wr W1.heap.size (.slice Ao no co) (upTo ll d k)) ∧ Aside0 (Below W1.heap.size W1 wr)) (fun _ i _ => q - (intOf i).toNat)
 case atStart => exact ⟨0, none, 0, 0, Nat.zero_le _, rfl, rfl, ⟨Kd.R_nil _ _ _ _ _⟩, ⟨Below.refl _ _⟩⟩
 case round =>
  obtain ⟨k, Ao, no, co, hk, rfl, rfl, HO, HB⟩ := hrel
  by_cases hlt : k < q
  ·
   have hltb : decide ((k : Int) < (q : Int)) = true := decide_eq_true (by omega)
   obtain ⟨x, Hx⟩ : ∃ x, Aside0 ((kids ll d)[k]? = some x) := ⟨_, ⟨List.getElem?_eq_getElem (by rw [(RN.C HRC.out).1]; exact hlt)⟩⟩
   obtain ⟨ad, e, g0, g1, g2, g3, g4, g5⟩ := node_at (RN.C HRC.out).2.2 (below_drew1 HB.out) k x Hx.out
   subst e
   obtain ⟨ad', e, c1', c2', c3', c4', c5', c6'⟩ := node_at (RN.C HRC.out).2.2 (Below.refl _ W1) k x Hx.out
   cases e
   have H1C := Aside0.mk (And.intro c1' (And.intro c2' (And.intro c3' (And.intro c4' (And.intro c5' c6')))))
   clear c1' c2' c3' c4' c5' c6'
   have HG := Aside0.mk (And.intro g0 (And.intro g1 (And.intro g2 (And.intro g3 (And.intro g4 g5)))))
   have HKQ : Aside0 (k < q ∧ q ≤ 400000) := ⟨hlt, hq4⟩
   have HUS := Aside0.mk (upTo_succ (l := ll) (d := d) Hx.out)
   have HUL : Aside0 ((upTo ll d (k + 1)).length ≤ 400000) := ⟨Nat.le_trans (upTo_le HS.out HU.out _) (by rw [Hn.out]; exact HL.out)⟩
   have HIX := Aside0.mk (HIH.out x (List.mem_of_getElem? Hx.out))
   have HO9 := Aside0.mk (RN.below' HO.out (below_drew1 (Below.refl _ wr)))
   have HUB : Aside0 (∀ g, (Value.slice Ao no co).ownBlock = some g → g < wr.drew.heap.size) := ⟨fun g hg => by obtain ⟨_, cur, hc⟩ := HO9.out.block hg; exact blk_lt hc⟩
   have HB9 := Aside0.mk (below_drew1 HB.out)
   obtain ⟨out, Hout⟩ : ∃ out, Aside0 (upTo ll d k = out) := ⟨_, ⟨rfl⟩⟩
   obtain ⟨bl, Hbl⟩ : ∃ bl, Aside0 (belowL ll x.f0 = bl) := ⟨_, ⟨rfl⟩⟩
   rw [Hout.out] at HO9 HUS
   rw [Hbl.out] at HUS HIX
   have HLN : Aside0 (out.length + 1 + bl.length ≤ 400000) := ⟨by have := HUL.out; rw [HUS.out] at this; simp at this; omega⟩
   clear g0 g1 g2 g3 g4 g5
   go_wp2_with fail
   refine AnyOrder.wp_region (by kernel_rfl) (rb6Inv W1 wr.drew A0 Ao ad n c0 no co q cc k x out bl _ _ _ _ _ _ _ _ _ _ _ _ _ _ _ _ _ _ _ _ _ _ _ _ _ _ _ _ _) ⟨false, false, false, false, false, false, false, false, false, false, false, false, false, false, false, false, 0, undef, undef, undef, rfl, rfl, ⟨⟨fun h => (by cases h), fun h => (by cases h), fun h => (by cases h), HB9.out, Nat.le_refl _, fun _ => HO9.out, fun h _ => (by cases h), fun h _ => (by cases h), fun h _ => (by cases h), fun h => (by cases h)⟩⟩⟩ ?step ?last
   case step =>
    rintro L ac V i ⟨l0, l1, l2, l3, l4, l5, l6, l7, l8, l9, l10, l11, l12, l13, l14, l15, g, v1, v2, v3, rfl, rfl, HF⟩ hi K hK
    have h1 : i = 0 ∨ i = 1 ∨ i = 2 ∨ i = 3 ∨ i = 4 ∨ i = 5 ∨ i = 6 ∨ i = 7 ∨ i = 8 ∨ i = 9 ∨ i = 10 ∨ i = 11 ∨ i = 12 ∨ i = 13 ∨ i = 14 ∨ i = 15 := by
     have h1 := (AnyOrder.mem_ready hi).1
     clear hi hK
     change i < 16 at h1
     omega
    rcases h1 with rfl | rfl | rfl | rfl | rfl | rfl | rfl | rfl | rfl | rfl | rfl | rfl | rfl | rfl | rfl | rfl
    ·
     obtain rfl : l0 = false := (AnyOrder.mem_ready hi).2.1
     clear hi
     obtain rfl : l15 = false := by cases l15 with | false => rfl | true => cases (HF.out.ord15 rfl).2
     (try simp only [sel_false, selv_false] at hK ⊢)
     refine AnyOrder.wpOp_go rfl (by rfl) ?_
     go_wp2_with fail
     exact ⟨true, l1, l2, l3, l4, l5, l6, l7, l8, l9, l10, l11, l12, l13, l14, false, g, v1, v2, v3, rfl, rfl, ⟨⟨HF.out.ord6, HF.out.ord14, fun h => (by cases h), HF.out.below, HF.out.size, HF.out.r0, HF.out.bx, HF.out.r1, HF.out.r2, HF.out.r3⟩⟩⟩
    ·
     obtain rfl : l1 = false := (AnyOrder.mem_ready hi).2.1
     clear hi
     refine AnyOrder.wpOp_go rfl (by rfl) ?_
     go_wp2_with fail
     exact ⟨l0, true, l2, l3, l4, l5, l6, l7, l8, l9, l10, l11, l12, l13, l14, l15, g, v1, v2, v3, rfl, rfl, HF⟩
    ·
     obtain rfl : l2 = false := (AnyOrder.mem_ready hi).2.1
     clear hi
     refine AnyOrder.wpOp_go rfl (by rfl) ?_
     go_wp2_with fail
     exact ⟨l0, l1, true, l3, l4, l5, l6, l7, l8, l9, l10, l11, l12, l13, l14, l15, g, v1, v2, v3, rfl, rfl, HF⟩
    ·
     obtain rfl : l3 = false := (AnyOrder.mem_ready hi).2.1
     obtain rfl : l1 = true := AnyOrder.dep (q := 0) hi rfl rfl rfl
     obtain rfl : l2 = true := AnyOrder.dep (q := 1) hi rfl rfl rfl
     clear hi
     simp only [sel_true, selv_true] at hK ⊢
     have hkk := HKQ.out.1
     have hkl2 := HKQ.out.2
     refine AnyOrder.wpOp_go rfl (by rfl) ?_
     go_wp2_with fail
     exact ⟨l0, true, true, true, l4, l5, l6, l7, l8, l9, l10, l11, l12, l13, l14, l15, g, v1, v2, v3, rfl, rfl, HF⟩
    ·
     obtain rfl : l4 = false := (AnyOrder.mem_ready hi).2.1
     obtain rfl : l3 = true := AnyOrder.dep (q := 0) hi rfl rfl rfl
     clear hi
     simp only [sel_true, selv_true] at hK ⊢
     obtain ⟨g0, g1, g2, g3, g4, g5⟩ := HG.out
     have g0 : V.cell? _ = _ := (HF.out.below.cell (World.block_lt_of_cell? _ _ (H1C.out.1))).trans (H1C.out.1)
     have g1 : V.cell? _ = _ := (HF.out.below.cell (World.block_lt_of_cell? _ _ (H1C.out.2.1))).trans (H1C.out.2.1)
     have g2 : V.cell? _ = _ := (HF.out.below.cell (World.block_lt_of_cell? _ _ (H1C.out.2.2.1))).trans (H1C.out.2.2.1)
     have g3 : V.cell? _ = _ := (HF.out.below.cell (World.block_lt_of_cell? _ _ (H1C.out.2.2.2.1))).trans (H1C.out.2.2.2.1)
     have g4 : V.cell? _ = _ := (HF.out.below.cell (World.block_lt_of_cell? _ _ (H1C.out.2.2.2.2.1))).trans (H1C.out.2.2.2.2.1)
     have g5 : V.cell? _ = _ := (HF.out.below.cell (World.block_lt_of_cell? _ _ (H1C.out.2.2.2.2.2))).trans (H1C.out.2.2.2.2.2)
     refine AnyOrder.wpOp_go rfl (by rfl) ?_
     go_wp2_with fail
     exact ⟨l0, l1, l2, true, true, l5, l6, l7, l8, l9, l10, l11, l12, l13, l14, l15, g, v1, v2, v3, rfl, rfl, HF⟩
    ·
     obtain rfl : l5 = false := (AnyOrder.mem_ready hi).2.1
     obtain rfl : l4 = true := AnyOrder.dep (q := 0) hi rfl rfl rfl
     clear hi
     simp only [sel_true, selv_true] at hK ⊢
     obtain rfl : l6 = false := by cases l6 with | false => rfl | true => cases HF.out.ord6 rfl
     obtain rfl : l14 = false := by cases l14 with | false => rfl | true => cases (HF.out.ord14 rfl).1
     obtain rfl : l15 = false := by cases l15 with | false => rfl | true => cases (HF.out.ord15 rfl).1
     (try simp only [sel_false, selv_false] at hK ⊢)
     have hb1 := (Gr.alloc V (boxN x)).below
     refine AnyOrder.wpOp_go rfl (by rfl) ?_
     go_wp2_with fail
     exact ⟨l0, l1, l2, l3, true, true, false, l7, l8, l9, l10, l11, l12, l13, false, false, V.heap.size, v1, v2, v3, rfl, rfl, ⟨⟨fun h => (by cases h), fun h => (by cases h), fun h => (by cases h), below_more HF.out.below hb1, Nat.le_trans HF.out.size hb1.size, fun _ => RN.below' (HF.out.r0 rfl) hb1, fun _ _ => blk_new _ _, fun h _ => (by cases h), fun h _ => RN.below' (HF.out.r2 h rfl) hb1, fun h => (by cases h)⟩⟩⟩
    ·
     obtain rfl : l6 = false := (AnyOrder.mem_ready hi).2.1
     obtain rfl : l0 = true := AnyOrder.dep (q := 0) hi rfl rfl rfl
     obtain rfl : l5 = true := AnyOrder.dep (q := 1) hi rfl rfl rfl
     clear hi
     simp only [sel_true, selv_true] at hK ⊢
     obtain rfl : l14 = false := by cases l14 with | false => rfl | true => cases (HF.out.ord14 rfl).1
     obtain rfl : l15 = false := by cases l15 with | false => rfl | true => cases (HF.out.ord15 rfl).1
     (try simp only [sel_false, selv_false] at hK ⊢)
     have hr0 := HF.out.r0 rfl
     refine AnyOrder.wpOp_go rfl (by rfl) ?_
     refine op_append_node W1.heap.size rfl (.tmp 17) (.tmp 22) rfl (.slice Ao no co) out [x] (some ⟨g, 0, none⟩) 1 1 rfl rfl hr0 (boxN_C (HF.out.bx rfl rfl)) HF.out.below.size (by have := HLN.out; omega) ?_
     intro u1 V1 hr1 hg1 _
     exact hK _ _ ⟨true, l1, l2, l3, l4, true, true, l7, l8, l9, l10, l11, l12, l13, false, false, g, u1, v2, v3, rfl, rfl, ⟨⟨fun _ => rfl, fun h => (by cases h), fun h => (by cases h), grown_below HF.out.below hr0 hg1, Nat.le_trans HF.out.size hg1.size, fun h => (by cases h), fun _ h => (by cases h), fun _ _ => hr1, fun h _ => (HF.out.r2 h rfl).keep fun j hj => hg1.block j (by obtain ⟨_, cur, hc⟩ := (HF.out.r2 h rfl).block hj; exact blk_lt hc) (fun e => by have h5 := HUB.out j e.symm; have h6 := ((HF.out.r2 h rfl).block hj).1; omega), fun h => (by cases h)⟩⟩⟩
    ·
     obtain rfl : l7 = false := (AnyOrder.mem_ready hi).2.1
     clear hi
     refine AnyOrder.wpOp_go rfl (by rfl) ?_
     go_wp2_with fail
     exact ⟨l0, l1, l2, l3, l4, l5, l6, true, l8, l9, l10, l11, l12, l13, l14, l15, g, v1, v2, v3, rfl, rfl, HF⟩
    ·
     obtain rfl : l8 = false := (AnyOrder.mem_ready hi).2.1
     clear hi
     refine AnyOrder.wpOp_go rfl (by rfl) ?_
     go_wp2_with fail
     exact ⟨l0, l1, l2, l3, l4, l5, l6, l7, true, l9, l10, l11, l12, l13, l14, l15, g, v1, v2, v3, rfl, rfl, HF⟩
    ·
     obtain rfl : l9 = false := (AnyOrder.mem_ready hi).2.1
     clear hi
     refine AnyOrder.wpOp_go rfl (by rfl) ?_
     go_wp2_with fail
     exact ⟨l0, l1, l2, l3, l4, l5, l6, l7, l8, true, l10, l11, l12, l13, l14, l15, g, v1, v2, v3, rfl, rfl, HF⟩
    ·
     obtain rfl : l10 = false := (AnyOrder.mem_ready hi).2.1
     obtain rfl : l8 = true := AnyOrder.dep (q := 0) hi rfl rfl rfl
     obtain rfl : l9 = true := AnyOrder.dep (q := 1) hi rfl rfl rfl
     clear hi
     simp only [sel_true, selv_true] at hK ⊢
     have hkk := HKQ.out.1
     have hkl2 := HKQ.out.2
     refine AnyOrder.wpOp_go rfl (by rfl) ?_
     go_wp2_with fail
     exact ⟨l0, l1, l2, l3, l4, l5, l6, l7, true, true, true, l11, l12, l13, l14, l15, g, v1, v2, v3, rfl, rfl, HF⟩
    ·
     obtain rfl : l11 = false := (AnyOrder.mem_ready hi).2.1
     obtain rfl : l10 = true := AnyOrder.dep (q := 0) hi rfl rfl rfl
     clear hi
     simp only [sel_true, selv_true] at hK ⊢
     refine AnyOrder.wpOp_go rfl (by rfl) ?_
     go_wp2_with fail
     exact ⟨l0, l1, l2, l3, l4, l5, l6, l7, l8, l9, true, true, l12, l13, l14, l15, g, v1, v2, v3, rfl, rfl, HF⟩
    ·
     obtain rfl : l12 = false := (AnyOrder.mem_ready hi).2.1
     obtain rfl : l11 = true := AnyOrder.dep (q := 0) hi rfl rfl rfl
     clear hi
     simp only [sel_true, selv_true] at hK ⊢
     obtain ⟨g0, g1, g2, g3, g4, g5⟩ := HG.out
     have g0 : V.cell? _ = _ := (HF.out.below.cell (World.block_lt_of_cell? _ _ (H1C.out.1))).trans (H1C.out.1)
     have g1 : V.cell? _ = _ := (HF.out.below.cell (World.block_lt_of_cell? _ _ (H1C.out.2.1))).trans (H1C.out.2.1)
     have g2 : V.cell? _ = _ := (HF.out.below.cell (World.block_lt_of_cell? _ _ (H1C.out.2.2.1))).trans (H1C.out.2.2.1)
     have g3 : V.cell? _ = _ := (HF.out.below.cell (World.block_lt_of_cell? _ _ (H1C.out.2.2.2.1))).trans (H1C.out.2.2.2.1)
     have g4 : V.cell? _ = _ := (HF.out.below.cell (World.block_lt_of_cell? _ _ (H1C.out.2.2.2.2.1))).trans (H1C.out.2.2.2.2.1)
     have g5 : V.cell? _ = _ := (HF.out.below.cell (World.block_lt_of_cell? _ _ (H1C.out.2.2.2.2.2))).trans (H1C.out.2.2.2.2.2)
     refine AnyOrder.wpOp_go rfl (by rfl) ?_
     go_wp2_with fail
     exact ⟨l0, l1, l2, l3, l4, l5, l6, l7, l8, l9, l10, true, true, l13, l14, l15, g, v1, v2, v3, rfl, rfl, HF⟩
    ·
     obtain rfl : l13 = false := (AnyOrder.mem_ready hi).2.1
     obtain rfl : l7 = true := AnyOrder.dep (q := 0) hi rfl rfl rfl
     obtain rfl : l12 = true := AnyOrder.dep (q := 1) hi rfl rfl rfl
     obtain rfl : l6 = true := AnyOrder.dep (q := 2) hi rfl rfl rfl
     clear hi
     simp only [sel_true, selv_true] at hK ⊢
     obtain rfl : l14 = false := by cases l14 with | false => rfl | true => cases (HF.out.ord14 rfl).2
     obtain rfl : l15 = false := by cases l15 with | false => rfl | true => cases (HF.out.ord15 rfl).1
     (try simp only [sel_false, selv_false] at hK ⊢)
     refine AnyOrder.wpOp_go rfl (by rfl) ?_
     go_wp2_with fail
     refine (HIX.out V (below_more HB1.out HF.out.below)).mono ?_
     rintro e V' ⟨u2, rfl, hr2, hb1⟩
     exact hK _ _ ⟨l0, l1, l2, l3, l4, l5, true, true, l8, l9, l10, l11, true, true, false, false, g, v1, u2, v3, rfl, rfl, ⟨⟨HF.out.ord6, fun h => (by cases h), fun h => (by cases h), below_more HF.out.below hb1, Nat.le_trans HF.out.size hb1.size, fun h => RN.below' (HF.out.r0 h) hb1, fun h h' => blk_keep (HF.out.bx h h') hb1, fun h _ => RN.below' (HF.out.r1 h rfl) hb1, fun _ _ => Kd.R_lower hr2 HF.out.size, fun h => (by cases h)⟩⟩⟩
    ·
     obtain rfl : l14 = false := (AnyOrder.mem_ready hi).2.1
     obtain rfl : l6 = true := AnyOrder.dep (q := 0) hi rfl rfl rfl
     obtain rfl : l13 = true := AnyOrder.dep (q := 1) hi rfl rfl rfl
     clear hi
     simp only [sel_true, selv_true] at hK ⊢
     obtain rfl : l15 = false := by cases l15 with | false => rfl | true => cases (HF.out.ord15 rfl).1
     (try simp only [sel_false, selv_false] at hK ⊢)
     have hr1 := HF.out.r1 rfl rfl
     have hr2 := HF.out.r2 rfl rfl
     obtain ⟨A2, c2, rfl⟩ := RN.slice hr2
     obtain ⟨m2, hm2⟩ : ∃ m2, bl.length = m2 := ⟨_, rfl⟩
     rw [hm2] at hr2 HF
     (try rw [hm2] at hK)
     (try rw [hm2])
     refine AnyOrder.wpOp_go rfl (by rfl) ?_
     refine op_append_node W1.heap.size rfl (.tmp 23) (.tmp 30) rfl v1 (out ++ [x]) bl A2 m2 c2 rfl rfl hr1 (RN.C hr2).2.2 HF.out.below.size (by have := HLN.out; rw [List.length_append, List.length_singleton]; omega) ?_
     intro u3 V3 hr3 hg3 _
     exact hK _ _ ⟨l0, l1, l2, l3, l4, l5, true, l7, l8, l9, l10, l11, l12, true, true, false, g, v1, (.slice A2 m2 c2), u3, rfl, rfl, ⟨⟨HF.out.ord6, fun _ => ⟨rfl, rfl⟩, fun h => (by cases h), grown_below HF.out.below hr1 hg3, Nat.le_trans HF.out.size hg3.size, fun h => (by cases h), fun _ h => (by cases h), fun _ h => (by cases h), fun _ h => (by cases h), fun _ => hr3⟩⟩⟩
    ·
     obtain rfl : l15 = false := (AnyOrder.mem_ready hi).2.1
     obtain rfl : l14 = true := AnyOrder.dep (q := 0) hi rfl rfl rfl
     obtain rfl : l0 = true := AnyOrder.dep (q := 2) hi rfl rfl rfl
     obtain rfl : l1 = true := AnyOrder.dep (q := 3) hi rfl rfl rfl
     obtain rfl : l2 = true := AnyOrder.dep (q := 4) hi rfl rfl rfl
     obtain rfl : l3 = true := AnyOrder.dep (q := 5) hi rfl rfl rfl
     obtain rfl : l4 = true := AnyOrder.dep (q := 6) hi rfl rfl rfl
     obtain rfl : l5 = true := AnyOrder.dep (q := 7) hi rfl rfl rfl
     obtain rfl : l6 = true := AnyOrder.dep (q := 8) hi rfl rfl rfl
     obtain rfl : l7 = true := AnyOrder.dep (q := 9) hi rfl rfl rfl
     obtain rfl : l8 = true := AnyOrder.dep (q := 10) hi rfl rfl rfl
     obtain rfl : l9 = true := AnyOrder.dep (q := 11) hi rfl rfl rfl
     obtain rfl : l10 = true := AnyOrder.dep (q := 12) hi rfl rfl rfl
     obtain rfl : l11 = true := AnyOrder.dep (q := 13) hi rfl rfl rfl
     obtain rfl : l12 = true := AnyOrder.dep (q := 14) hi rfl rfl rfl
     obtain rfl : l13 = true := AnyOrder.dep (q := 15) hi rfl rfl rfl
     clear hi
     simp only [sel_true, selv_true] at hK ⊢
     refine AnyOrder.wpOp_go rfl (by rfl) ?_
     go_wp2_with fail
     exact ⟨true, true, true, true, true, true, true, true, true, true, true, true, true, true, true, true, g, v1, v2, v3, rfl, rfl, ⟨⟨HF.out.ord6, HF.out.ord14, fun _ => ⟨rfl, rfl⟩, HF.out.below, HF.out.size, HF.out.r0, HF.out.bx, HF.out.r1, HF.out.r2, HF.out.r3⟩⟩⟩
   case last =>
    rintro L ac V ⟨l0, l1, l2, l3, l4, l5, l6, l7, l8, l9, l10, l11, l12, l13, l14, l15, g, v1, v2, v3, rfl, rfl, HF⟩ hr
    have hall := AnyOrder.all_listed rfl (by kernel_rfl) hr
    clear hr
    obtain rfl : l0 = true := hall 0 (by decide)
    obtain rfl : l1 = true := hall 1 (by decide)
    obtain rfl : l2 = true := hall 2 (by decide)
    obtain rfl : l3 = true := hall 3 (by decide)
    obtain rfl : l4 = true := hall 4 (by decide)
    obtain rfl : l5 = true := hall 5 (by decide)
    obtain rfl : l6 = true := hall 6 (by decide)
    obtain rfl : l7 = true := hall 7 (by decide)
    obtain rfl : l8 = true := hall 8 (by decide)
    obtain rfl : l9 = true := hall 9 (by decide)
    obtain rfl : l10 = true := hall 10 (by decide)
    obtain rfl : l11 = true := hall 11 (by decide)
    obtain rfl : l12 = true := hall 12 (by decide)
    obtain rfl : l13 = true := hall 13 (by decide)
    obtain rfl : l14 = true := hall 14 (by decide)
    obtain rfl : l15 = true := hall 15 (by decide)
    clear hall
    simp only [sel_true, selv_true]
    have HR3 := Aside0.mk (HF.out.r3 rfl)
    have HB3 := Aside0.mk HF.out.below
    obtain ⟨A3, c3, rfl⟩ := RN.slice HR3.out
    obtain ⟨n3, hn3⟩ : ∃ n3, (out ++ [x] ++ bl).length = n3 := ⟨_, rfl⟩
    rw [hn3] at HR3 ⊢
    clear HF hn3
    go_wp2
    go_roundw
    case rel => exact ⟨k + 1, A3, n3, c3, by omega, by go_num, rfl, ⟨by rw [HUS.out]; exact HR3.out⟩, HB3⟩
    case measure => simp [intOf] <;> omega
  ·
   obtain rfl : k = q := by omega
   have hltb : decide ((k : Int) < (k : Int)) = false := decide_eq_false (by omega)
   have hall : upTo ll d k = belowL ll d := by unfold upTo; rw [List.take_of_length_le (Nat.le_of_eq (RN.C HRC.out).1), belowL_kids HS.out HU.out]
   rw [hall] at HO
   go_wp2
   go_ret
   exact ⟨_, rfl, Kd.R_lower HO.out HB1.out.size, below_more HB1.out HB.out⟩
theorem refBelow_call (A0 : Option Addr) (n c0 : Nat) (ll : List Node) (hn : ll.length = n) (hl : n ≤ 400000) (hs : Store ll) (hc0 : n ≤ c0) : ∀ (m : Nat) (d : Dot) (U : List Node) (w : World), Path ll d U → U.length + m = ll.length → Kd.C k35 w A0 n ll →
  Calls Tryz.prog 31 #[.slice A0 n c0, vDot d] w fun e w' => ∃ v, e = .returned v ∧ RN w' w.heap.size v (belowL ll d) ∧ Below w.heap.size w w' := by
 intro m
 induction m with
 | zero =>
  intro d U w hU hm hr0
  refine refBelow_step A0 n c0 ll d U w hn hl hs hU hr0 hc0 fun x hx => ?_
  have := hU.low hs 0 hm
  rw [show kids ll d = [] from this] at hx
  cases hx
 | succ m ih =>
  intro d U w hU hm hr0
  refine refBelow_step A0 n c0 ll d U w hn hl hs hU hr0 hc0 fun x hx W hb => ?_
  obtain ⟨hx1, hx2⟩ := mem_kids.1 hx
  exact ih x.f0 (x :: U) W (Path.step d U x hU hx1 hx2) (by simp only [List.length_cons]; omega) (Kd.C_below hr0 hb)
theorem redpencilref11_Below.calls (A0 : Option Addr) (c0 : Nat) (l0 : List Node) (a1_0 a1_1 : Int) (r : List Node) (w : World) (hr0 : Kd.C k35 w A0 l0.length l0) (hc0 : l0.length ≤ c0) (h : redpencilref11_Below.f l0 a1_0 a1_1 = some r) :
  Calls Tryz.prog 31 #[.slice A0 l0.length c0, .agg #[.int .i64 a1_0, .int .i64 a1_1]] w fun e w' => ∃ v0_ : Value, e = .returned v0_ ∧ Kd.R k35 35 w' w.heap.size (fun _ => True) v0_ r ∧ Below w.heap.size w w' := by
 unfold redpencilref11_Below.f at h
 split at h
 ·
  rename_i hh
  obtain ⟨h1, h2, h3⟩ := hh
  obtain rfl := Option.some.inj h
  obtain ⟨p, hp⟩ := Option.isSome_iff_exists.1 h3
  obtain ⟨U, hU, _⟩ := pathOf_some (store_of h2) hp
  exact refBelow_call A0 l0.length c0 l0 rfl h1 (store_of h2) hc0 (l0.length - U.length) ⟨a1_0, a1_1⟩ U w hU (by have := hU.le (store_of h2); omega) hr0
 ·
  cases h
end Go.Proofs.YtjlpaagnajmogaaGreat.PWalk
end
section
namespace Go.Proofs.YtjlpaagnajmogaaGreat.PWalk
open Go.RowKit Go.Proofs.YtjlpaagnajmogaaGreatW.PrintWords Go.Proofs.YtjlpaagnajmogaaGreatW.PrintLast Go.Proofs.YtjlpaagnajmogaaGreatW.PrintMore
set_option linter.unusedVariables false
set_option linter.unusedSimpArgs false
def redpencilref11_Order.f (l0 : List (S35)) : Option ((List (S35))) := (redpencilref11_Below.f l0 0 0).bind fun t227 => (some t227)
set_option maxHeartbeats 8000000 in
set_option maxRecDepth 100000 in
theorem redpencilref11_Order.calls (A0 : Option Addr) (c0 : Nat) (l0 : List (S35)) (r : List (S35)) (w : World) (hr0 : Kd.C k35 w A0 l0.length l0) (hc0 : l0.length ≤ c0) (h : redpencilref11_Order.f l0 = some r) :
  Calls Tryz.prog 22 #[.slice A0 l0.length c0] w fun e w' => ∃ v0_ : Value, e = .returned (v0_) ∧ Kd.R k35 35 w' w.heap.size (fun _ => True) v0_ r ∧ Below w.heap.size w w' := by
 have hu24 := Tryz.underlying24
 have HR0 := Aside0.mk hr0
 have HC0 := Aside0.mk hc0
 clear hr0 hc0
 have HB := Aside0.mk (Below.refl w.heap.size w)
 have H : ((redpencilref11_Below.f l0 0 0).bind fun t227 => (some t227)) = some r := h
 clear h
 replace H := Option.bind_eq_some_iff.mp H
 obtain ⟨t227, A20, H⟩ := H
 replace H : (some t227) = some r := H
 have A2 := Aside0.mk A20
 clear A20
 obtain rfl := Option.some.inj H
 go_enter Tryz.func22, Tryz.ntmps22
 go_wp2_with (first | ((with_reducible refine gate_callee (f := 31) rfl ?_); refine goesL_ (some 5) rfl rfl Tryz.func31 (by kernel_rfl) rfl #[.slice A0 l0.length c0, .agg #[.int .i64 0, .int .i64 0]] rfl (by (try simp only [List.map_toArray, List.map_cons, List.map_nil]); first | done | rfl | (simp only [List.length_drop, List.length_take]; rfl)) ?_; (with_reducible refine (redpencilref11_Below.calls _ _ l0 0 0 t227 _ ?side1 ?side2 A2.out).mono ?_); (case side1 => repeat (first | exact HR0.out | (with_reducible refine Kd.C_alloc ?_ _) | (with_reducible refine Kd.C_drewN ?_ _) | (with_reducible refine Kd.C_drew ?_))); (case side2 => exact HC0.out); rintro e w3 ⟨v228, rfl, ho0, hb⟩; refine ⟨_, rfl, ?_⟩; have n0_ := Aside0.mk (Kd.R_lower ho0 (below_size (by repeat (first | (with_reducible first | exact HB.out | apply below_alloc | apply pw_below_drewN | apply below_drew1) | exact HB.out)))); have n1_ := Aside0.mk (below_step (by repeat (first | (with_reducible first | exact HB.out | apply below_alloc | apply pw_below_drewN | apply below_drew1) | exact HB.out)) hb); clear HB; have HO229 := n0_; have HB := n1_; clear n0_ n1_; (try clear hb); (try clear hb2); (try clear hk); (try clear hi); (try clear ho0)))
 go_ret
 exact ⟨_, by first | rfl | (simp [errW_none, errW_some] <;> rfl) | (simp [*, errW_none, errW_some] <;> rfl), by (with_reducible repeat (first | apply Kd.R_alloc | apply Kd.R_drewN | apply Kd.R_drew)); exact HO229.out, by repeat (first | (with_reducible first | exact HB.out | apply below_alloc | apply pw_below_drewN | apply below_drew1) | exact HB.out)⟩
end Go.Proofs.YtjlpaagnajmogaaGreat.PWalk
end
section
namespace Go.Proofs.YtjlpaagnajmogaaGreat.PWalk
open Go.RowKit Go.Proofs.YtjlpaagnajmogaaGreatW.PrintWords Go.Proofs.YtjlpaagnajmogaaGreatW.PrintLast Go.Proofs.YtjlpaagnajmogaaGreatW.PrintMore
set_option linter.unusedVariables false
set_option linter.unusedSimpArgs false
attribute [local go_sem high] eqA24
def redpencilref10_Find.l0 : Nat → List (S35) → Int → Int → Int → Option (Int)
 | 0, _, _, _, _ => none
 | k + 1, x0, x5, x231000, x231001 => if x5 < (x0.length : Int) then (if 0 ≤ x5 then (if (((rd_T35 x0 x5).f0.f0) == x231000 && (((rd_T35 x0 x5).f0.f1) == x231001)) = true then (some x5) else (redpencilref10_Find.l0 k x0 (wrap64 (x5 + 1)) x231000 x231001)) else (none)) else (some (-1))
def redpencilref10_Find.f (k : Nat) (l0 : List (S35)) (a1_0 : Int) (a1_1 : Int) : Option (Int) := redpencilref10_Find.l0 k l0 0 a1_0 a1_1
set_option maxHeartbeats 8000000 in
set_option maxRecDepth 100000 in
theorem redpencilref10_Find.calls (k : Nat) (A0 : Option Addr) (c0 : Nat) (l0 : List (S35)) (a1_0 : Int) (a1_1 : Int) (r : Int) (w : World) (hr0 : Kd.C k35 w A0 l0.length l0) (hc0 : l0.length ≤ c0) (h : redpencilref10_Find.f k l0 a1_0 a1_1 = some r) :
  Calls Tryz.prog 59 #[.slice A0 l0.length c0, .agg #[.int .i64 a1_0, .int .i64 a1_1]] w fun e w' => e = .returned (.int .i64 r) ∧ Below w.heap.size w w' := by
 have hu24 := Tryz.underlying24
 have HR0 := Aside0.mk hr0
 have HC0 := Aside0.mk hc0
 clear hr0 hc0
 have HB := Aside0.mk (Below.refl w.heap.size w)
 have H : (redpencilref10_Find.l0 k l0 0 a1_0 a1_1) = some r := h
 clear h
 have H' := Aside0.mk H
 clear H
 go_enter Tryz.func59, Tryz.ntmps59
 go_wp2_with (first | ((with_reducible refine gate_dst (N := 3) rfl ?_); refine box_event ?hg (N := 3) ?hd (cs := #[.int .i64 a1_0, .int .i64 a1_1]) (t := 24) ?hr ?_; (case hd => rfl); (case hg => rfl); (case hr => first | (go_simp; done) | (go_simp; rfl)); intro gb230 hg w3 hbox hb; have n0_ := Aside0.mk (below_step (by repeat (first | (with_reducible first | exact HB.out | apply below_alloc | apply pw_below_drewN | apply below_drew1) | exact HB.out)) hb); have n1_ := Aside0.mk (hbox); have n2_ := Aside0.mk ((by rw [hg]; exact (below_size (by repeat (first | (with_reducible first | exact HB.out | apply below_alloc | apply pw_below_drewN | apply below_drew1) | exact HB.out))) : w.heap.size ≤ gb230)); have n3_ := Aside0.mk ((by rw [hg]; exact (below_size (by repeat (first | (with_reducible first | exact HB.out | apply below_alloc | apply pw_below_drewN | apply below_drew1) | exact HB.out))) : w.heap.size ≤ gb230)); clear HB; have HB := n0_; have BK230 := n1_; have GW230 := n2_; have GE230 := n3_; clear n0_ n1_ n2_ n3_; clear hb hbox hg))
 repeat (go_quiet (first | ((with_reducible refine gate_dst (N := 3) rfl ?_); refine box_event ?hg (N := 3) ?hd (cs := #[.int .i64 a1_0, .int .i64 a1_1]) (t := 24) ?hr ?_; (case hd => rfl); (case hg => rfl); (case hr => first | (go_simp; done) | (go_simp; rfl)); intro gb230 hg w3 hbox hb; have n0_ := Aside0.mk (below_step (by repeat (first | (with_reducible first | exact HB.out | apply below_alloc | apply pw_below_drewN | apply below_drew1) | exact HB.out)) hb); have n1_ := Aside0.mk (hbox); have n2_ := Aside0.mk ((by rw [hg]; exact (below_size (by repeat (first | (with_reducible first | exact HB.out | apply below_alloc | apply pw_below_drewN | apply below_drew1) | exact HB.out))) : w.heap.size ≤ gb230)); have n3_ := Aside0.mk ((by rw [hg]; exact (below_size (by repeat (first | (with_reducible first | exact HB.out | apply below_alloc | apply pw_below_drewN | apply below_drew1) | exact HB.out))) : w.heap.size ≤ gb230)); clear HB; have HB := n0_; have BK230 := n1_; have GW230 := n2_; have GE230 := n3_; clear n0_ n1_ n2_ n3_; clear hb hbox hg)); try go_wp2_with (first | ((with_reducible refine gate_dst (N := 3) rfl ?_); refine box_event ?hg (N := 3) ?hd (cs := #[.int .i64 a1_0, .int .i64 a1_1]) (t := 24) ?hr ?_; (case hd => rfl); (case hg => rfl); (case hr => first | (go_simp; done) | (go_simp; rfl)); intro gb230 hg w3 hbox hb; have n0_ := Aside0.mk (below_step (by repeat (first | (with_reducible first | exact HB.out | apply below_alloc | apply pw_below_drewN | apply below_drew1) | exact HB.out)) hb); have n1_ := Aside0.mk (hbox); have n2_ := Aside0.mk ((by rw [hg]; exact (below_size (by repeat (first | (with_reducible first | exact HB.out | apply below_alloc | apply pw_below_drewN | apply below_drew1) | exact HB.out))) : w.heap.size ≤ gb230)); have n3_ := Aside0.mk ((by rw [hg]; exact (below_size (by repeat (first | (with_reducible first | exact HB.out | apply below_alloc | apply pw_below_drewN | apply below_drew1) | exact HB.out))) : w.heap.size ≤ gb230)); clear HB; have HB := n0_; have BK230 := n1_; have GW230 := n2_; have GE230 := n3_; clear n0_ n1_ n2_ n3_; clear hb hbox hg)))
 go_loopg [5] k (fun kq v5 w' => ∃ (x5_1 : Int), v5 = .int .i64 x5_1 ∧ Aside0 (redpencilref10_Find.l0 kq l0 x5_1 a1_0 a1_1 = some r) ∧ Aside0 (kq ≤ k) ∧ Aside0 (w'.heap[gb230]? = some (.cells #[.int .i64 a1_0, .int .i64 a1_1] 24 (0, 0))) ∧ Aside0 (Below w.heap.size w w'))
 case atStart => exact ⟨(0), (by first | rfl | (simp; done) | (simp [*]; done)), H', ⟨Nat.le_refl _⟩, ⟨by (with_reducible repeat (first | refine blk_drewN ?_ _ | refine blk_drew ?_ | refine blk_alloc ?_ _)); exact BK230.out⟩, ⟨by repeat (first | (with_reducible first | exact HB.out | apply below_alloc | apply pw_below_drewN | apply below_drew1 | refine below_set ?_ GE230.out) | exact HB.out)⟩⟩
 case round =>
  clear H'
  try clear p2
  obtain ⟨x5_1, rfl, HA, HK1, BK230, HB⟩ := hrel
  cases gk with
  | zero => exact absurd HA.out (by simp [redpencilref10_Find.l0])
  | succ k1 =>
   have H := HA.out
   clear HA
   simp only [redpencilref10_Find.l0] at H
   by_cases c4 : x5_1 < (l0.length : Int)
   ·
    rw [if_pos c4] at H
    have c4b0 : decide (x5_1 < (l0.length : Int)) = true := decide_eq_true c4
    clear c4
    by_cases c5 : 0 ≤ x5_1
    ·
     rw [if_pos c5] at H
     have c5b0 : decide (0 ≤ x5_1) = true := decide_eq_true c5
     clear c5
     by_cases c6 : (((rd_T35 l0 x5_1).f0.f0) == a1_0 && (((rd_T35 l0 x5_1).f0.f1) == a1_1)) = true
     ·
      rw [if_pos c6] at H
      have c6b0 : (((rd_T35 l0 x5_1).f0.f0) == a1_0 && (((rd_T35 l0 x5_1).f0.f1) == a1_1)) = true := c6
      (try (have c6b1 : decide (((rd_T35 l0 x5_1).f0.f0) = a1_0 && (((rd_T35 l0 x5_1).f0.f1) == a1_1)) = true := by simpa using c6))
      (try (have c6b2 : (((rd_T35 l0 x5_1).f0.f0) == a1_0 && (((rd_T35 l0 x5_1).f0.f1) == a1_1)) = true := by simpa using c6))
      clear c6
      obtain rfl := Option.some.inj H
      have p231 : 0 ≤ (x5_1 : Int) := of_decide_eq_true (by first | (with_reducible assumption) | assumption)
      have q231 : x5_1 < (l0.length : Int) := of_decide_eq_true (by first | (with_reducible assumption) | assumption)
      obtain ⟨ad231, e231, hx231_0, hx231_1, hx231_2, hx231_3, hx231_4, hx231_5⟩ := at_T35 HR0.out x5_1 p231 q231
      cases e231
      replace hx231_0 := (HB.out.cell (World.block_lt_of_cell? w _ hx231_0)).trans hx231_0
      replace hx231_1 := (HB.out.cell (World.block_lt_of_cell? w _ hx231_1)).trans hx231_1
      replace hx231_2 := (HB.out.cell (World.block_lt_of_cell? w _ hx231_2)).trans hx231_2
      replace hx231_3 := (HB.out.cell (World.block_lt_of_cell? w _ hx231_3)).trans hx231_3
      replace hx231_4 := (HB.out.cell (World.block_lt_of_cell? w _ hx231_4)).trans hx231_4
      replace hx231_5 := (HB.out.cell (World.block_lt_of_cell? w _ hx231_5)).trans hx231_5
      replace p231 := eq_true p231
      replace q231 := eq_true q231
      have hcz7_0 : wr.cell? ⟨gb230, 0, none⟩ = some (.int .i64 a1_0) := (blk_cell BK230.out 0).trans rfl
      have hcz7_1 : wr.cell? ⟨gb230, 1, none⟩ = some (.int .i64 a1_1) := (blk_cell BK230.out 1).trans rfl
      have hfz7_0 := blk_frozen BK230.out 0
      have hfz7_1 := blk_frozen BK230.out 1
      go_wp2
      repeat (go_quiet (fail); try go_wp2)
      go_ret
      exact ⟨by first | rfl | (simp [errW_none, errW_some] <;> rfl) | (simp [*, errW_none, errW_some] <;> rfl), by repeat (first | (with_reducible first | exact HB.out | apply below_alloc | apply pw_below_drewN | apply below_drew1 | refine below_set ?_ GE230.out) | exact HB.out)⟩
     ·
      rw [if_neg c6] at H
      have c6b0 : (((rd_T35 l0 x5_1).f0.f0) == a1_0 && (((rd_T35 l0 x5_1).f0.f1) == a1_1)) = false := by simpa using c6
      (try (have c6b1 : decide (((rd_T35 l0 x5_1).f0.f0) = a1_0 && (((rd_T35 l0 x5_1).f0.f1) == a1_1)) = false := by simpa using c6))
      (try (have c6b2 : (((rd_T35 l0 x5_1).f0.f0) == a1_0 && (((rd_T35 l0 x5_1).f0.f1) == a1_1)) = false := by simpa using c6))
      (try (have c6b3 : ¬ (((rd_T35 l0 x5_1).f0.f0) = a1_0 && (((rd_T35 l0 x5_1).f0.f1) == a1_1)) := by simpa using c6))
      clear c6
      have H' := Aside0.mk H
      clear H
      have p231 : 0 ≤ (x5_1 : Int) := of_decide_eq_true (by first | (with_reducible assumption) | assumption)
      have q231 : x5_1 < (l0.length : Int) := of_decide_eq_true (by first | (with_reducible assumption) | assumption)
      obtain ⟨ad231, e231, hx231_0, hx231_1, hx231_2, hx231_3, hx231_4, hx231_5⟩ := at_T35 HR0.out x5_1 p231 q231
      cases e231
      replace hx231_0 := (HB.out.cell (World.block_lt_of_cell? w _ hx231_0)).trans hx231_0
      replace hx231_1 := (HB.out.cell (World.block_lt_of_cell? w _ hx231_1)).trans hx231_1
      replace hx231_2 := (HB.out.cell (World.block_lt_of_cell? w _ hx231_2)).trans hx231_2
      replace hx231_3 := (HB.out.cell (World.block_lt_of_cell? w _ hx231_3)).trans hx231_3
      replace hx231_4 := (HB.out.cell (World.block_lt_of_cell? w _ hx231_4)).trans hx231_4
      replace hx231_5 := (HB.out.cell (World.block_lt_of_cell? w _ hx231_5)).trans hx231_5
      replace p231 := eq_true p231
      replace q231 := eq_true q231
      have hcz8_0 : wr.cell? ⟨gb230, 0, none⟩ = some (.int .i64 a1_0) := (blk_cell BK230.out 0).trans rfl
      have hcz8_1 : wr.cell? ⟨gb230, 1, none⟩ = some (.int .i64 a1_1) := (blk_cell BK230.out 1).trans rfl
      have hfz8_0 := blk_frozen BK230.out 0
      have hfz8_1 := blk_frozen BK230.out 1
      go_wp2
      repeat (go_quiet (fail); try go_wp2)
      go_roundg k1
      case measure => have := HK1.out; omega
      case rel => exact ⟨(wrap64 (x5_1 + 1)), (by first | rfl | (simp; done) | (simp [*]; done)), H', ⟨by have := HK1.out; omega⟩, ⟨by (with_reducible repeat (first | refine blk_drewN ?_ _ | refine blk_drew ?_ | refine blk_alloc ?_ _)); exact BK230.out⟩, ⟨by repeat (first | (with_reducible first | exact HB.out | apply below_alloc | apply pw_below_drewN | apply below_drew1 | refine below_set ?_ GE230.out) | exact HB.out)⟩⟩
    ·
     rw [if_neg c5] at H
     exact absurd H (by simp)
   ·
    rw [if_neg c4] at H
    have c4b0 : decide (x5_1 < (l0.length : Int)) = false := decide_eq_false c4
    clear c4
    obtain rfl := Option.some.inj H
    go_wp2
    repeat (go_quiet (fail); try go_wp2)
    go_ret
    exact ⟨by first | rfl | (simp [errW_none, errW_some] <;> rfl) | (simp [*, errW_none, errW_some] <;> rfl), by repeat (first | (with_reducible first | exact HB.out | apply below_alloc | apply pw_below_drewN | apply below_drew1 | refine below_set ?_ GE230.out) | exact HB.out)⟩
def redpencilref11_Path.l0 : Nat → List (S35) → List (S24) → Int → Int → Int → Option ((List (S24)) × Bool)
 | 0, _, _, _, _, _ => none
 | k + 1, x0, x6, x7, x233000, x233001 => if x7 ≤ (x0.length : Int) then ((redpencilref04_Root.f x233000 x233001).bind fun t233 => (if t233 = true then (some (x6, true)) else ((redpencilref10_Find.f k x0 x233000 x233001).bind fun t234 => (if t234 < 0 then (some (([] : List (S24)), false)) else ((some (([(⟨x233000, x233001⟩ : S24)] : List (S24)) : List (S24))).bind fun y235 => (if y235.length + x6.length < 8796093022208 then (if 0 ≤ t234 then (if t234 < (x0.length : Int) then (redpencilref11_Path.l0 k x0 (y235 ++ x6) (wrap64 (x7 + 1)) ((rd_T35 x0 t234).f1.f0) ((rd_T35 x0 t234).f1.f1)) else (none)) else (none)) else (none))))))) else (some (([] : List (S24)), false))
def redpencilref11_Path.f (k : Nat) (l0 : List (S35)) (a1_0 : Int) (a1_1 : Int) : Option ((List (S24)) × Bool) := redpencilref11_Path.l0 k l0 ([] : List (S24)) 0 a1_0 a1_1
set_option maxHeartbeats 8000000 in
set_option maxRecDepth 100000 in
theorem redpencilref11_Path.calls (k : Nat) (A0 : Option Addr) (c0 : Nat) (l0 : List (S35)) (a1_0 : Int) (a1_1 : Int) (r1 : List (S24)) (r2 : Bool) (w : World) (hr0 : Kd.C k35 w A0 l0.length l0) (hc0 : l0.length ≤ c0) (h : redpencilref11_Path.f k l0 a1_0 a1_1 = some (r1, r2)) :
  Calls Tryz.prog 23 #[.slice A0 l0.length c0, .agg #[.int .i64 a1_0, .int .i64 a1_1]] w fun e w' => ∃ v0_ : Value, e = .returned (.tuple #[v0_, .bool r2]) ∧ Kd.R k24 24 w' w.heap.size (fun _ => True) v0_ r1 ∧ Below w.heap.size w w' := by
 have hu24 := Tryz.underlying24
 have HR0 := Aside0.mk hr0
 have HC0 := Aside0.mk hc0
 clear hr0 hc0
 have HB := Aside0.mk (Below.refl w.heap.size w)
 have H : (redpencilref11_Path.l0 k l0 ([] : List (S24)) 0 a1_0 a1_1) = some (r1, r2) := h
 clear h
 have H' := Aside0.mk H
 clear H
 go_enter Tryz.func23, Tryz.ntmps23
 go_wp2_with (first | ((with_reducible refine gate_dst (N := 3) rfl ?_); refine box_event ?hg (N := 3) ?hd (cs := #[.int .i64 a1_0, .int .i64 a1_1]) (t := 24) ?hr ?_; (case hd => rfl); (case hg => rfl); (case hr => first | (go_simp; done) | (go_simp; rfl)); intro gb232 hg w3 hbox hb; have n0_ := Aside0.mk (below_step (by repeat (first | (with_reducible first | exact HB.out | apply below_alloc | apply pw_below_drewN | apply below_drew1) | exact HB.out)) hb); have n1_ := Aside0.mk (hbox); have n2_ := Aside0.mk ((by rw [hg]; exact (below_size (by repeat (first | (with_reducible first | exact HB.out | apply below_alloc | apply pw_below_drewN | apply below_drew1) | exact HB.out))) : w.heap.size ≤ gb232)); have n3_ := Aside0.mk ((by rw [hg]; exact (below_size (by repeat (first | (with_reducible first | exact HB.out | apply below_alloc | apply pw_below_drewN | apply below_drew1) | exact HB.out))) : w.heap.size ≤ gb232)); clear HB; have HB := n0_; have BK232 := n1_; have GW232 := n2_; have GE232 := n3_; clear n0_ n1_ n2_ n3_; clear hb hbox hg))
 go_loopg [6, 7] k (fun kq v6 v7 w' => ∃ (x6_1 : List (S24)) (x7_1 : Int) (x233000_1 : Int) (x233001_1 : Int), v7 = .int .i64 x7_1 ∧ Aside0 (redpencilref11_Path.l0 kq l0 x6_1 x7_1 x233000_1 x233001_1 = some (r1, r2)) ∧ Aside0 (kq ≤ k) ∧ Aside0 (Kd.R k24 24 w' w.heap.size (fun k_ => k_ ≠ gb232) v6 x6_1) ∧ Aside0 (w'.heap[gb232]? = some (.cells #[.int .i64 x233000_1, .int .i64 x233001_1] 24 (0, 0))) ∧ Aside0 (Below w.heap.size w w'))
 case atStart => exact ⟨(([] : List (S24))), (0), (a1_0), (a1_1), (by first | rfl | (simp; done) | (simp [*]; done)), H', ⟨Nat.le_refl _⟩, ⟨by first | exact Kd.R_nil _ _ _ _ _ | exact Kd.N_nil _ _ _ _ _ | exact Kd.V_nil _ _ _ _ _ | exact Kd.Q_nil _ _ _ _ _ | exact Kd.S_nil _ _ _ _ _⟩, ⟨by (with_reducible repeat (first | refine blk_drewN ?_ _ | refine blk_drew ?_ | refine blk_alloc ?_ _)); exact BK232.out⟩, ⟨by repeat (first | (with_reducible first | exact HB.out | apply below_alloc | apply pw_below_drewN | apply below_drew1 | refine below_set ?_ GE232.out) | exact HB.out)⟩⟩
 case round =>
  clear H'
  try clear c2
  try clear p2
  obtain ⟨x6_1, x7_1, x233000_1, x233001_1, rfl, HA, HK1, HO_6, BK232, HB⟩ := hrel
  cases gk with
  | zero => exact absurd HA.out (by simp [redpencilref11_Path.l0])
  | succ k1 =>
   have H := HA.out
   clear HA
   simp only [redpencilref11_Path.l0] at H
   by_cases c4 : x7_1 ≤ (l0.length : Int)
   ·
    rw [if_pos c4] at H
    have c4b0 : decide (x7_1 ≤ (l0.length : Int)) = true := decide_eq_true c4
    clear c4
    replace H := Option.bind_eq_some_iff.mp H
    obtain ⟨t233, A50, H⟩ := H
    replace H : (if t233 = true then (some (x6_1, true)) else ((redpencilref10_Find.f k1 l0 x233000_1 x233001_1).bind fun t234 => (if t234 < 0 then (some (([] : List (S24)), false)) else ((some (([(⟨x233000_1, x233001_1⟩ : S24)] : List (S24)) : List (S24))).bind fun y235 => (if y235.length + x6_1.length < 8796093022208 then (if 0 ≤ t234 then (if t234 < (l0.length : Int) then (redpencilref11_Path.l0 k1 l0 (y235 ++ x6_1) (wrap64 (x7_1 + 1)) ((rd_T35 l0 t234).f1.f0) ((rd_T35 l0 t234).f1.f1)) else (none)) else (none)) else (none)))))) = some (r1, r2) := H
    have A5 := Aside0.mk A50
    clear A50
    by_cases c6 : t233 = true
    ·
     subst c6
     have H1 : (some (x6_1, true)) = some (r1, r2) := by rw [if_pos rfl] at H; exact H
     clear H
     have H := H1
     clear H1
     simp only [Option.some.injEq, Prod.mk.injEq] at H
     obtain ⟨rfl, rfl⟩ := H
     have hcz7_0 : wr.cell? ⟨gb232, 0, none⟩ = some (.int .i64 x233000_1) := (blk_cell BK232.out 0).trans rfl
     have hcz7_1 : wr.cell? ⟨gb232, 1, none⟩ = some (.int .i64 x233001_1) := (blk_cell BK232.out 1).trans rfl
     have hfz7_0 := blk_frozen BK232.out 0
     have hfz7_1 := blk_frozen BK232.out 1
     go_wp2_with (first | ((with_reducible refine gate_callee (f := 29) rfl ?_); refine goesL_ (some 16) rfl rfl Tryz.func29 (by kernel_rfl) rfl #[.agg #[.int .i64 x233000_1, .int .i64 x233001_1]] rfl (by (try simp only [List.map_toArray, List.map_cons, List.map_nil]); first | done | rfl | (simp only [List.length_drop, List.length_take]; rfl)) ?_; (with_reducible refine (redpencilref04_Root.calls x233000_1 x233001_1 true _ A5.out).mono ?_); rintro e w8 ⟨rfl, hb⟩; refine ⟨_, rfl, ?_⟩; have n0_ := Aside0.mk (Kd.R_below (by (with_reducible repeat (first | apply Kd.R_alloc | apply Kd.R_drewN | apply Kd.R_drew)); exact HO_6.out) hb); have n1_ := Aside0.mk (blk_below (g := gb232) (o := .cells #[.int .i64 x233000_1, .int .i64 x233001_1] 24 (0, 0)) (by (with_reducible repeat (first | refine blk_drewN ?_ _ | refine blk_drew ?_ | refine blk_alloc ?_ _)); exact BK232.out) hb); have n2_ := Aside0.mk (below_step (by repeat (first | (with_reducible first | exact HB.out | apply below_alloc | apply pw_below_drewN | apply below_drew1 | refine below_set ?_ GE232.out) | exact HB.out)) hb); clear HO_6; clear BK232; clear HB; have HO_6 := n0_; have BK232 := n1_; have HB := n2_; clear n0_ n1_ n2_; (try clear hb); (try clear hb2); (try clear hk); (try clear hi)))
     go_ret2
     exact ⟨_, by first | rfl | (simp [errW_none, errW_some] <;> rfl) | (simp [*, errW_none, errW_some] <;> rfl), by (with_reducible repeat (first | apply Kd.R_alloc | apply Kd.R_drewN | apply Kd.R_drew)); exact Kd.R_mono HO_6.out (fun _ hk => trivial), by repeat (first | (with_reducible first | exact HB.out | apply below_alloc | apply pw_below_drewN | apply below_drew1 | refine below_set ?_ GE232.out) | exact HB.out)⟩
    ·
     replace c6 := Bool.eq_false_iff.mpr c6
     subst c6
     have H1 : ((redpencilref10_Find.f k1 l0 x233000_1 x233001_1).bind fun t234 => (if t234 < 0 then (some (([] : List (S24)), false)) else ((some (([(⟨x233000_1, x233001_1⟩ : S24)] : List (S24)) : List (S24))).bind fun y235 => (if y235.length + x6_1.length < 8796093022208 then (if 0 ≤ t234 then (if t234 < (l0.length : Int) then (redpencilref11_Path.l0 k1 l0 (y235 ++ x6_1) (wrap64 (x7_1 + 1)) ((rd_T35 l0 t234).f1.f0) ((rd_T35 l0 t234).f1.f1)) else (none)) else (none)) else (none))))) = some (r1, r2) := by rw [if_neg (show ¬ (false = true) by decide)] at H; exact H
     clear H
     have H := H1
     clear H1
     replace H := Option.bind_eq_some_iff.mp H
     obtain ⟨t234, A90, H⟩ := H
     replace H : (if t234 < 0 then (some (([] : List (S24)), false)) else ((some (([(⟨x233000_1, x233001_1⟩ : S24)] : List (S24)) : List (S24))).bind fun y235 => (if y235.length + x6_1.length < 8796093022208 then (if 0 ≤ t234 then (if t234 < (l0.length : Int) then (redpencilref11_Path.l0 k1 l0 (y235 ++ x6_1) (wrap64 (x7_1 + 1)) ((rd_T35 l0 t234).f1.f0) ((rd_T35 l0 t234).f1.f1)) else (none)) else (none)) else (none)))) = some (r1, r2) := H
     have A9 := Aside0.mk A90
     clear A90
     by_cases c10 : t234 < 0
     ·
      rw [if_pos c10] at H
      have c10b0 : decide (t234 < 0) = true := decide_eq_true c10
      clear c10
      simp only [Option.some.injEq, Prod.mk.injEq] at H
      obtain ⟨rfl, rfl⟩ := H
      have hcz11_0 : wr.cell? ⟨gb232, 0, none⟩ = some (.int .i64 x233000_1) := (blk_cell BK232.out 0).trans rfl
      have hcz11_1 : wr.cell? ⟨gb232, 1, none⟩ = some (.int .i64 x233001_1) := (blk_cell BK232.out 1).trans rfl
      have hfz11_0 := blk_frozen BK232.out 0
      have hfz11_1 := blk_frozen BK232.out 1
      go_wp2_with (first | ((with_reducible refine gate_callee (f := 29) rfl ?_); refine goesL_ (some 16) rfl rfl Tryz.func29 (by kernel_rfl) rfl #[.agg #[.int .i64 x233000_1, .int .i64 x233001_1]] rfl (by (try simp only [List.map_toArray, List.map_cons, List.map_nil]); first | done | rfl | (simp only [List.length_drop, List.length_take]; rfl)) ?_; (with_reducible refine (redpencilref04_Root.calls x233000_1 x233001_1 false _ A5.out).mono ?_); rintro e w12 ⟨rfl, hb⟩; refine ⟨_, rfl, ?_⟩; have n0_ := Aside0.mk (Kd.R_below (by (with_reducible repeat (first | apply Kd.R_alloc | apply Kd.R_drewN | apply Kd.R_drew)); exact HO_6.out) hb); have n1_ := Aside0.mk (blk_below (g := gb232) (o := .cells #[.int .i64 x233000_1, .int .i64 x233001_1] 24 (0, 0)) (by (with_reducible repeat (first | refine blk_drewN ?_ _ | refine blk_drew ?_ | refine blk_alloc ?_ _)); exact BK232.out) hb); have n2_ := Aside0.mk (below_step (by repeat (first | (with_reducible first | exact HB.out | apply below_alloc | apply pw_below_drewN | apply below_drew1 | refine below_set ?_ GE232.out) | exact HB.out)) hb); clear HO_6; clear BK232; clear HB; have HO_6 := n0_; have BK232 := n1_; have HB := n2_; clear n0_ n1_ n2_; (try clear hb); (try clear hb2); (try clear hk); (try clear hi); have hcz13_0 : w12.cell? ⟨gb232, 0, none⟩ = some (.int .i64 x233000_1) := (blk_cell BK232.out 0).trans rfl; have hcz13_1 : w12.cell? ⟨gb232, 1, none⟩ = some (.int .i64 x233001_1) := (blk_cell BK232.out 1).trans rfl; have hfz13_0 := blk_frozen BK232.out 0; have hfz13_1 := blk_frozen BK232.out 1) | ((with_reducible refine gate_callee (f := 59) rfl ?_); refine goesL_ (some 20) rfl rfl Tryz.func59 (by kernel_rfl) rfl #[.slice A0 l0.length c0, .agg #[.int .i64 x233000_1, .int .i64 x233001_1]] rfl (by (try simp only [List.map_toArray, List.map_cons, List.map_nil]); first | done | rfl | (simp only [List.length_drop, List.length_take]; rfl)) ?_; (with_reducible refine (redpencilref10_Find.calls k1 _ _ l0 x233000_1 x233001_1 t234 _ ?side1 ?side2 A9.out).mono ?_); (case side1 => repeat (first | exact (Kd.C_below HR0.out HB.out) | (with_reducible refine Kd.C_alloc ?_ _) | (with_reducible refine Kd.C_drewN ?_ _) | (with_reducible refine Kd.C_drew ?_))); (case side2 => exact HC0.out); rintro e w14 ⟨rfl, hb⟩; refine ⟨_, rfl, ?_⟩; have n0_ := Aside0.mk (Kd.R_below (by (with_reducible repeat (first | apply Kd.R_alloc | apply Kd.R_drewN | apply Kd.R_drew)); exact HO_6.out) hb); have n1_ := Aside0.mk (blk_below (g := gb232) (o := .cells #[.int .i64 x233000_1, .int .i64 x233001_1] 24 (0, 0)) (by (with_reducible repeat (first | refine blk_drewN ?_ _ | refine blk_drew ?_ | refine blk_alloc ?_ _)); exact BK232.out) hb); have n2_ := Aside0.mk (below_step (by repeat (first | (with_reducible first | exact HB.out | apply below_alloc | apply pw_below_drewN | apply below_drew1 | refine below_set ?_ GE232.out) | exact HB.out)) hb); clear HO_6; clear BK232; clear HB; have HO_6 := n0_; have BK232 := n1_; have HB := n2_; clear n0_ n1_ n2_; (try clear hb); (try clear hb2); (try clear hk); (try clear hi)))
      go_ret2
      exact ⟨_, by first | rfl | (simp [errW_none, errW_some] <;> rfl) | (simp [*, errW_none, errW_some] <;> rfl), by first | exact Kd.R_nil _ _ _ _ _ | exact Kd.N_nil _ _ _ _ _ | exact Kd.V_nil _ _ _ _ _ | exact Kd.Q_nil _ _ _ _ _ | exact Kd.S_nil _ _ _ _ _, by repeat (first | (with_reducible first | exact HB.out | apply below_alloc | apply pw_below_drewN | apply below_drew1 | refine below_set ?_ GE232.out) | exact HB.out)⟩
     ·
      rw [if_neg c10] at H
      have c10b0 : decide (t234 < 0) = false := decide_eq_false c10
      clear c10
      obtain ⟨y235, hy235⟩ : ∃ y_ : List (S24), y_ = (([(⟨x233000_1, x233001_1⟩ : S24)] : List (S24))) := ⟨_, rfl⟩
      replace H : (if y235.length + x6_1.length < 8796093022208 then (if 0 ≤ t234 then (if t234 < (l0.length : Int) then (redpencilref11_Path.l0 k1 l0 (y235 ++ x6_1) (wrap64 (x7_1 + 1)) ((rd_T35 l0 t234).f1.f0) ((rd_T35 l0 t234).f1.f1)) else (none)) else (none)) else (none)) = some (r1, r2) := by first | (rw [hy235]; with_reducible exact H) | (have H2_ := (Option.bind_some _ _).symm.trans H; rw [hy235]; with_reducible exact H2_) | (have H2_ := (Option.bind_some _ _).symm.trans H; with_reducible exact H2_) | with_reducible exact H | (rw [hy235]; exact H) | exact H
      have Ny235 := Aside0.mk hy235
      clear hy235
      by_cases c15 : y235.length + x6_1.length < 8796093022208
      ·
       rw [if_pos c15] at H
       have LMc15 := Aside0.mk c15
       clear c15
       obtain ⟨y238, hy238⟩ : ∃ y_ : List (S24), y_ = (y235 ++ x6_1) := ⟨_, rfl⟩
       replace H : (if 0 ≤ t234 then (if t234 < (l0.length : Int) then (redpencilref11_Path.l0 k1 l0 y238 (wrap64 (x7_1 + 1)) ((rd_T35 l0 t234).f1.f0) ((rd_T35 l0 t234).f1.f1)) else (none)) else (none)) = some (r1, r2) := by first | (rw [hy238]; with_reducible exact H) | (have H2_ := (Option.bind_some _ _).symm.trans H; rw [hy238]; with_reducible exact H2_) | (have H2_ := (Option.bind_some _ _).symm.trans H; with_reducible exact H2_) | with_reducible exact H | (rw [hy238]; exact H) | exact H
       have Ny238 := Aside0.mk hy238
       clear hy238
       by_cases c16 : 0 ≤ t234
       ·
        rw [if_pos c16] at H
        have c16b0 : decide (0 ≤ t234) = true := decide_eq_true c16
        clear c16
        by_cases c17 : t234 < (l0.length : Int)
        ·
         rw [if_pos c17] at H
         have c17b0 : decide (t234 < (l0.length : Int)) = true := decide_eq_true c17
         clear c17
         have H' := Aside0.mk H
         clear H
         have hcz18_0 : wr.cell? ⟨gb232, 0, none⟩ = some (.int .i64 x233000_1) := (blk_cell BK232.out 0).trans rfl
         have hcz18_1 : wr.cell? ⟨gb232, 1, none⟩ = some (.int .i64 x233001_1) := (blk_cell BK232.out 1).trans rfl
         have hfz18_0 := blk_frozen BK232.out 0
         have hfz18_1 := blk_frozen BK232.out 1
         go_wp2_with (first | ((with_reducible refine gate_callee (f := 29) rfl ?_); refine goesL_ (some 16) rfl rfl Tryz.func29 (by kernel_rfl) rfl #[.agg #[.int .i64 x233000_1, .int .i64 x233001_1]] rfl (by (try simp only [List.map_toArray, List.map_cons, List.map_nil]); first | done | rfl | (simp only [List.length_drop, List.length_take]; rfl)) ?_; (with_reducible refine (redpencilref04_Root.calls x233000_1 x233001_1 false _ A5.out).mono ?_); rintro e w19 ⟨rfl, hb⟩; refine ⟨_, rfl, ?_⟩; have n0_ := Aside0.mk (Kd.R_below (by (with_reducible repeat (first | apply Kd.R_alloc | apply Kd.R_drewN | apply Kd.R_drew)); exact HO_6.out) hb); have n1_ := Aside0.mk (blk_below (g := gb232) (o := .cells #[.int .i64 x233000_1, .int .i64 x233001_1] 24 (0, 0)) (by (with_reducible repeat (first | refine blk_drewN ?_ _ | refine blk_drew ?_ | refine blk_alloc ?_ _)); exact BK232.out) hb); have n2_ := Aside0.mk (below_step (by repeat (first | (with_reducible first | exact HB.out | apply below_alloc | apply pw_below_drewN | apply below_drew1 | refine below_set ?_ GE232.out) | exact HB.out)) hb); clear HO_6; clear BK232; clear HB; have HO_6 := n0_; have BK232 := n1_; have HB := n2_; clear n0_ n1_ n2_; (try clear hb); (try clear hb2); (try clear hk); (try clear hi); have hcz20_0 : w19.cell? ⟨gb232, 0, none⟩ = some (.int .i64 x233000_1) := (blk_cell BK232.out 0).trans rfl; have hcz20_1 : w19.cell? ⟨gb232, 1, none⟩ = some (.int .i64 x233001_1) := (blk_cell BK232.out 1).trans rfl; have hfz20_0 := blk_frozen BK232.out 0; have hfz20_1 := blk_frozen BK232.out 1) | ((with_reducible refine gate_callee (f := 59) rfl ?_); refine goesL_ (some 20) rfl rfl Tryz.func59 (by kernel_rfl) rfl #[.slice A0 l0.length c0, .agg #[.int .i64 x233000_1, .int .i64 x233001_1]] rfl (by (try simp only [List.map_toArray, List.map_cons, List.map_nil]); first | done | rfl | (simp only [List.length_drop, List.length_take]; rfl)) ?_; (with_reducible refine (redpencilref10_Find.calls k1 _ _ l0 x233000_1 x233001_1 t234 _ ?side1 ?side2 A9.out).mono ?_); (case side1 => repeat (first | exact (Kd.C_below HR0.out HB.out) | (with_reducible refine Kd.C_alloc ?_ _) | (with_reducible refine Kd.C_drewN ?_ _) | (with_reducible refine Kd.C_drew ?_))); (case side2 => exact HC0.out); rintro e w21 ⟨rfl, hb⟩; refine ⟨_, rfl, ?_⟩; have n0_ := Aside0.mk (Kd.R_below (by (with_reducible repeat (first | apply Kd.R_alloc | apply Kd.R_drewN | apply Kd.R_drew)); exact HO_6.out) hb); have n1_ := Aside0.mk (blk_below (g := gb232) (o := .cells #[.int .i64 x233000_1, .int .i64 x233001_1] 24 (0, 0)) (by (with_reducible repeat (first | refine blk_drewN ?_ _ | refine blk_drew ?_ | refine blk_alloc ?_ _)); exact BK232.out) hb); have n2_ := Aside0.mk (below_step (by repeat (first | (with_reducible first | exact HB.out | apply below_alloc | apply pw_below_drewN | apply below_drew1 | refine below_set ?_ GE232.out) | exact HB.out)) hb); clear HO_6; clear BK232; clear HB; have HO_6 := n0_; have BK232 := n1_; have HB := n2_; clear n0_ n1_ n2_; (try clear hb); (try clear hb2); (try clear hk); (try clear hi); have hcz22_0 : w21.cell? ⟨gb232, 0, none⟩ = some (.int .i64 x233000_1) := (blk_cell BK232.out 0).trans rfl; have hcz22_1 : w21.cell? ⟨gb232, 1, none⟩ = some (.int .i64 x233001_1) := (blk_cell BK232.out 1).trans rfl; have hfz22_0 := blk_frozen BK232.out 0; have hfz22_1 := blk_frozen BK232.out 1) | ((with_reducible refine gate_dst (N := 24) rfl ?_); refine Kd.R_lit k24 _ 24 ?hg (N := 24) ?hd (xs := ([(⟨x233000_1, x233001_1⟩ : S24)] : List (S24))) (inner := [.int .i64 x233000_1, .int .i64 x233001_1]) (ok := fun _ => True) (okp := fun _ => True) ?hr ?hp (fun _ hk => hk) trivial (Below.refl _ _) (Nat.le_refl _) (by simp) ?_; (case hd => rfl); (case hg => rfl); (case hr => first | (go_simp; done) | (go_simp; rfl)); (case hp => exact (Reps.c2 (show Kd.M k24 _ _ _ (⟨x233000_1, x233001_1⟩ : S24) [.int .i64 x233000_1, .int .i64 x233001_1] from (k24_mkM _ _ _ (⟨x233000_1, x233001_1⟩ : S24) )) (Reps.none _ _))); intro v236 w23 ho24 hb hg_ hnew_; clear hg_ hnew_; (first | rw [← Ny235.out] at ho24 | (simp only [Int.reduceToNat] at ho24; rw [← Ny235.out] at ho24)); have n0_ := Aside0.mk (Kd.R_elder' (by (with_reducible repeat (first | apply Kd.R_alloc | apply Kd.R_drewN | apply Kd.R_drew)); exact HO_6.out) (Kd.R_base ho24) hb); have n1_ := Aside0.mk (Kd.R_lower (Kd.R_newB (Kd.R_new' ho24 (Kd.R_lt (by (with_reducible repeat (first | apply Kd.R_alloc | apply Kd.R_drewN | apply Kd.R_drew)); exact HO_6.out))) (g := gb232) (o := .cells #[.int .i64 x233000_1, .int .i64 x233001_1] 24 (0, 0)) (by (with_reducible repeat (first | refine blk_drewN ?_ _ | refine blk_drew ?_ | refine blk_alloc ?_ _)); exact BK232.out)) (below_size (by repeat (first | (with_reducible first | exact HB.out | apply below_alloc | apply pw_below_drewN | apply below_drew1 | refine below_set ?_ GE232.out) | exact HB.out)))); have n2_ := Aside0.mk (blk_below (g := gb232) (o := .cells #[.int .i64 x233000_1, .int .i64 x233001_1] 24 (0, 0)) (by (with_reducible repeat (first | refine blk_drewN ?_ _ | refine blk_drew ?_ | refine blk_alloc ?_ _)); exact BK232.out) hb); have n3_ := Aside0.mk (below_step (by repeat (first | (with_reducible first | exact HB.out | apply below_alloc | apply pw_below_drewN | apply below_drew1 | refine below_set ?_ GE232.out) | exact HB.out)) hb); clear HO_6; clear BK232; clear HB; have HO_6 := n0_; have HO237 := n1_; have BK232 := n2_; have HB := n3_; clear n0_ n1_ n2_ n3_; clear hb ho24; obtain ⟨Ao26, co26, eo26⟩ := Kd.R_slice HO_6.out; subst eo26) | ((with_reducible refine gate_builtin (b := .append) (xs := #[.tmp 24, .tmp 25]) rfl ?_); at_builtin; refine Kd.R_append_rows k24 (w0 := w) w.heap.size rfl (.tmp 24) (.tmp 25) 41 24 (.agg #[(.int .i64 0), (.int .i64 0)]) 16 rfl Tryz.underlying41 info24 rfl (by decide) (by omega) v236 y235 x6_1 _ _ _ (fun k_ => some k_ ≠ (.slice Ao26 x6_1.length co26 : Value).ownBlock ∧ k_ ≠ gb232) (fun _ => False) rfl rfl ?aO ?aR (fun _ _ h => h) (fun _ h => h.elim) ?aF ?aB ?aS ?aL ?_; (case aR => repeat (first | exact (Kd.R_reads' HO_6.out).2.2 | (with_reducible refine Kd.C_alloc ?_ _) | (with_reducible refine Kd.C_drewN ?_ _) | (with_reducible refine Kd.C_drew ?_))); (case aB => exact (by repeat (first | (with_reducible first | exact HB.out | apply below_alloc | apply pw_below_drewN | apply below_drew1 | refine below_set ?_ GE232.out) | exact HB.out))); (case aF => exact (fun k_ hk => ⟨Kd.fresh' (Kd.R_lt (by (with_reducible repeat (first | apply Kd.R_alloc | apply Kd.R_drewN | apply Kd.R_drew)); exact HO_6.out)) k_ hk, Kd.freshB (g := gb232) (o := .cells #[.int .i64 x233000_1, .int .i64 x233001_1] 24 (0, 0)) (by (with_reducible repeat (first | refine blk_drewN ?_ _ | refine blk_drew ?_ | refine blk_alloc ?_ _)); exact BK232.out) k_ hk⟩)); (case aO => exact (by (with_reducible repeat (first | apply Kd.R_alloc | apply Kd.R_drewN | apply Kd.R_drew)); exact Kd.R_mono HO237.out (fun _ hk => ⟨hk.1.2, hk.2⟩))); (case aS => exact (below_size (by repeat (first | (with_reducible first | exact HB.out | apply below_alloc | apply pw_below_drewN | apply below_drew1 | refine below_set ?_ GE232.out) | exact HB.out)))); (case aL => have := LMc15.out; omega); intro v239 w25 ho hb hg hat; rw [← Ny238.out] at ho; have n0_ := Aside0.mk (Kd.R_after (ok := (fun k_ => k_ ≠ gb232)) (by (with_reducible repeat (first | apply Kd.R_alloc | apply Kd.R_drewN | apply Kd.R_drew)); exact HO_6.out) hg hat); have n1_ := Aside0.mk (blk_grown (g := gb232) (o := .cells #[.int .i64 x233000_1, .int .i64 x233001_1] 24 (0, 0)) (by (with_reducible repeat (first | refine blk_drewN ?_ _ | refine blk_drew ?_ | refine blk_alloc ?_ _)); exact BK232.out) hg (Kd.R_away HO237.out (fun _ hk => hk.2))); have n2_ := Aside0.mk (hb); have n3_ := Aside0.mk (ho); clear HO_6; clear BK232; clear HB; clear HO237; have HO_6 := n0_; have BK232 := n1_; have HB := n2_; have HO240 := n3_; clear n0_ n1_ n2_ n3_; clear ho hb hg hat; have p241 : 0 ≤ (t234 : Int) := of_decide_eq_true (by first | (with_reducible assumption) | assumption); have q241 : t234 < (l0.length : Int) := of_decide_eq_true (by first | (with_reducible assumption) | assumption); obtain ⟨ad241, e241, hx241_0, hx241_1, hx241_2, hx241_3, hx241_4, hx241_5⟩ := at_T35 HR0.out t234 p241 q241; cases e241; replace hx241_0 := (HB.out.cell (World.block_lt_of_cell? w _ hx241_0)).trans hx241_0; replace hx241_1 := (HB.out.cell (World.block_lt_of_cell? w _ hx241_1)).trans hx241_1; replace hx241_2 := (HB.out.cell (World.block_lt_of_cell? w _ hx241_2)).trans hx241_2; replace hx241_3 := (HB.out.cell (World.block_lt_of_cell? w _ hx241_3)).trans hx241_3; replace hx241_4 := (HB.out.cell (World.block_lt_of_cell? w _ hx241_4)).trans hx241_4; replace hx241_5 := (HB.out.cell (World.block_lt_of_cell? w _ hx241_5)).trans hx241_5; replace p241 := eq_true p241; replace q241 := eq_true q241; have hcz27_0 : w25.cell? ⟨gb232, 0, none⟩ = some (.int .i64 x233000_1) := (blk_cell BK232.out 0).trans rfl; have hcz27_1 : w25.cell? ⟨gb232, 1, none⟩ = some (.int .i64 x233001_1) := (blk_cell BK232.out 1).trans rfl; have hfz27_0 := blk_frozen BK232.out 0; have hfz27_1 := blk_frozen BK232.out 1))
         go_roundg k1
         case measure => have := HK1.out; omega
         case rel => exact ⟨(y238), (wrap64 (x7_1 + 1)), ((rd_T35 l0 t234).f1.f0), ((rd_T35 l0 t234).f1.f1), (by first | rfl | (simp; done) | (simp [*]; done)), H', ⟨by have := HK1.out; omega⟩, ⟨by (with_reducible repeat (first | apply Kd.R_alloc | apply Kd.R_drewN | apply Kd.R_drew)); exact Kd.R_mono (Kd.R_far (p := ⟨gb232, 1, none⟩) (Kd.R_far (p := ⟨gb232, 0, none⟩) (Kd.R_mono HO240.out (fun k_ hk => (⟨hk, hk.2⟩ : _ ∧ k_ ≠ gb232))) (fun _ hk => hk.2) (.int .i64 ((rd_T35 l0 t234).f1.f0))) (fun _ hk => hk.2) (.int .i64 ((rd_T35 l0 t234).f1.f1))) (fun _ hk => hk.1.2)⟩, ⟨by (with_reducible repeat (first | refine blk_drewN ?_ _ | refine blk_drew ?_ | refine blk_alloc ?_ _)); refine blk_put (cs := #[.int .i64 ((rd_T35 l0 t234).f1.f0), .int .i64 x233001_1]) ?_ 1 _ rfl; (with_reducible repeat (first | refine blk_drewN ?_ _ | refine blk_drew ?_ | refine blk_alloc ?_ _)); refine blk_put (cs := #[.int .i64 x233000_1, .int .i64 x233001_1]) ?_ 0 _ rfl; (with_reducible repeat (first | refine blk_drewN ?_ _ | refine blk_drew ?_ | refine blk_alloc ?_ _)); exact BK232.out⟩, ⟨by repeat (first | (with_reducible first | exact HB.out | apply below_alloc | apply pw_below_drewN | apply below_drew1 | refine below_set ?_ GE232.out) | exact HB.out)⟩⟩
        ·
         rw [if_neg c17] at H
         exact absurd H (by simp)
       ·
        rw [if_neg c16] at H
        exact absurd H (by simp)
      ·
       rw [if_neg c15] at H
       exact absurd H (by simp)
   ·
    rw [if_neg c4] at H
    have c4b0 : decide (x7_1 ≤ (l0.length : Int)) = false := decide_eq_false c4
    clear c4
    simp only [Option.some.injEq, Prod.mk.injEq] at H
    obtain ⟨rfl, rfl⟩ := H
    go_wp2
    go_ret2
    exact ⟨_, by first | rfl | (simp [errW_none, errW_some] <;> rfl) | (simp [*, errW_none, errW_some] <;> rfl), by first | exact Kd.R_nil _ _ _ _ _ | exact Kd.N_nil _ _ _ _ _ | exact Kd.V_nil _ _ _ _ _ | exact Kd.Q_nil _ _ _ _ _ | exact Kd.S_nil _ _ _ _ _, by repeat (first | (with_reducible first | exact HB.out | apply below_alloc | apply pw_below_drewN | apply below_drew1 | refine below_set ?_ GE232.out) | exact HB.out)⟩
end Go.Proofs.YtjlpaagnajmogaaGreat.PWalk
end
section
namespace Go.Proofs.YtjlpaagnajmogaaGreat.PWalk
end Go.Proofs.YtjlpaagnajmogaaGreat.PWalk
end
section
namespace Go.Proofs.YtjlpaagnajmogaaGreat.PWalk
open Go.RowKit Go.Proofs.YtjlpaagnajmogaaGreatW.PrintWords Go.Proofs.YtjlpaagnajmogaaGreatW.PrintLast Go.Proofs.YtjlpaagnajmogaaGreatW.PrintMore
set_option linter.unusedVariables false
set_option linter.unusedSimpArgs false
attribute [local go_sem high] eqA24
def redpencilref04_Has.l0 : Nat → List (S24) → Int → Int → Int → Option (Bool)
 | 0, _, _, _, _ => none
 | k + 1, x0, x5, x264000, x264001 => if x5 < (x0.length : Int) then (if 0 ≤ x5 then (if (((rd_T24 x0 x5).f0) == x264000 && (((rd_T24 x0 x5).f1) == x264001)) = true then (some true) else (redpencilref04_Has.l0 k x0 (wrap64 (x5 + 1)) x264000 x264001)) else (none)) else (some false)
def redpencilref04_Has.f (k : Nat) (l0 : List (S24)) (a1_0 : Int) (a1_1 : Int) : Option (Bool) := redpencilref04_Has.l0 k l0 0 a1_0 a1_1
set_option maxHeartbeats 8000000 in
set_option maxRecDepth 100000 in
theorem redpencilref04_Has.calls (k : Nat) (A0 : Option Addr) (c0 : Nat) (l0 : List (S24)) (a1_0 : Int) (a1_1 : Int) (r : Bool) (w : World) (hr0 : Kd.C k24 w A0 l0.length l0) (hc0 : l0.length ≤ c0) (h : redpencilref04_Has.f k l0 a1_0 a1_1 = some r) :
  Calls Tryz.prog 54 #[.slice A0 l0.length c0, .agg #[.int .i64 a1_0, .int .i64 a1_1]] w fun e w' => e = .returned (.bool r) ∧ Below w.heap.size w w' := by
 have hu24 := Tryz.underlying24
 have HR0 := Aside0.mk hr0
 have HC0 := Aside0.mk hc0
 clear hr0 hc0
 have HB := Aside0.mk (Below.refl w.heap.size w)
 have H : (redpencilref04_Has.l0 k l0 0 a1_0 a1_1) = some r := h
 clear h
 have H' := Aside0.mk H
 clear H
 go_enter Tryz.func54, Tryz.ntmps54
 go_wp2_with (first | ((with_reducible refine gate_dst (N := 3) rfl ?_); refine box_event ?hg (N := 3) ?hd (cs := #[.int .i64 a1_0, .int .i64 a1_1]) (t := 24) ?hr ?_; (case hd => rfl); (case hg => rfl); (case hr => first | (go_simp; done) | (go_simp; rfl)); intro gb263 hg w3 hbox hb; have n0_ := Aside0.mk (below_step (by repeat (first | (with_reducible first | exact HB.out | apply below_alloc | apply pw_below_drewN | apply below_drew1) | exact HB.out)) hb); have n1_ := Aside0.mk (hbox); have n2_ := Aside0.mk ((by rw [hg]; exact (below_size (by repeat (first | (with_reducible first | exact HB.out | apply below_alloc | apply pw_below_drewN | apply below_drew1) | exact HB.out))) : w.heap.size ≤ gb263)); have n3_ := Aside0.mk ((by rw [hg]; exact (below_size (by repeat (first | (with_reducible first | exact HB.out | apply below_alloc | apply pw_below_drewN | apply below_drew1) | exact HB.out))) : w.heap.size ≤ gb263)); clear HB; have HB := n0_; have BK263 := n1_; have GW263 := n2_; have GE263 := n3_; clear n0_ n1_ n2_ n3_; clear hb hbox hg))
 repeat (go_quiet (first | ((with_reducible refine gate_dst (N := 3) rfl ?_); refine box_event ?hg (N := 3) ?hd (cs := #[.int .i64 a1_0, .int .i64 a1_1]) (t := 24) ?hr ?_; (case hd => rfl); (case hg => rfl); (case hr => first | (go_simp; done) | (go_simp; rfl)); intro gb263 hg w3 hbox hb; have n0_ := Aside0.mk (below_step (by repeat (first | (with_reducible first | exact HB.out | apply below_alloc | apply pw_below_drewN | apply below_drew1) | exact HB.out)) hb); have n1_ := Aside0.mk (hbox); have n2_ := Aside0.mk ((by rw [hg]; exact (below_size (by repeat (first | (with_reducible first | exact HB.out | apply below_alloc | apply pw_below_drewN | apply below_drew1) | exact HB.out))) : w.heap.size ≤ gb263)); have n3_ := Aside0.mk ((by rw [hg]; exact (below_size (by repeat (first | (with_reducible first | exact HB.out | apply below_alloc | apply pw_below_drewN | apply below_drew1) | exact HB.out))) : w.heap.size ≤ gb263)); clear HB; have HB := n0_; have BK263 := n1_; have GW263 := n2_; have GE263 := n3_; clear n0_ n1_ n2_ n3_; clear hb hbox hg)); try go_wp2_with (first | ((with_reducible refine gate_dst (N := 3) rfl ?_); refine box_event ?hg (N := 3) ?hd (cs := #[.int .i64 a1_0, .int .i64 a1_1]) (t := 24) ?hr ?_; (case hd => rfl); (case hg => rfl); (case hr => first | (go_simp; done) | (go_simp; rfl)); intro gb263 hg w3 hbox hb; have n0_ := Aside0.mk (below_step (by repeat (first | (with_reducible first | exact HB.out | apply below_alloc | apply pw_below_drewN | apply below_drew1) | exact HB.out)) hb); have n1_ := Aside0.mk (hbox); have n2_ := Aside0.mk ((by rw [hg]; exact (below_size (by repeat (first | (with_reducible first | exact HB.out | apply below_alloc | apply pw_below_drewN | apply below_drew1) | exact HB.out))) : w.heap.size ≤ gb263)); have n3_ := Aside0.mk ((by rw [hg]; exact (below_size (by repeat (first | (with_reducible first | exact HB.out | apply below_alloc | apply pw_below_drewN | apply below_drew1) | exact HB.out))) : w.heap.size ≤ gb263)); clear HB; have HB := n0_; have BK263 := n1_; have GW263 := n2_; have GE263 := n3_; clear n0_ n1_ n2_ n3_; clear hb hbox hg)))
 go_loopg [5] k (fun kq v5 w' => ∃ (x5_1 : Int), v5 = .int .i64 x5_1 ∧ Aside0 (redpencilref04_Has.l0 kq l0 x5_1 a1_0 a1_1 = some r) ∧ Aside0 (kq ≤ k) ∧ Aside0 (w'.heap[gb263]? = some (.cells #[.int .i64 a1_0, .int .i64 a1_1] 24 (0, 0))) ∧ Aside0 (Below w.heap.size w w'))
 case atStart => exact ⟨(0), (by first | rfl | (simp; done) | (simp [*]; done)), H', ⟨Nat.le_refl _⟩, ⟨by (with_reducible repeat (first | refine blk_drewN ?_ _ | refine blk_drew ?_ | refine blk_alloc ?_ _)); exact BK263.out⟩, ⟨by repeat (first | (with_reducible first | exact HB.out | apply below_alloc | apply pw_below_drewN | apply below_drew1 | refine below_set ?_ GE263.out) | exact HB.out)⟩⟩
 case round =>
  clear H'
  try clear p2
  obtain ⟨x5_1, rfl, HA, HK1, BK263, HB⟩ := hrel
  cases gk with
  | zero => exact absurd HA.out (by simp [redpencilref04_Has.l0])
  | succ k1 =>
   have H := HA.out
   clear HA
   simp only [redpencilref04_Has.l0] at H
   by_cases c4 : x5_1 < (l0.length : Int)
   ·
    rw [if_pos c4] at H
    have c4b0 : decide (x5_1 < (l0.length : Int)) = true := decide_eq_true c4
    clear c4
    by_cases c5 : 0 ≤ x5_1
    ·
     rw [if_pos c5] at H
     have c5b0 : decide (0 ≤ x5_1) = true := decide_eq_true c5
     clear c5
     by_cases c6 : (((rd_T24 l0 x5_1).f0) == a1_0 && (((rd_T24 l0 x5_1).f1) == a1_1)) = true
     ·
      rw [if_pos c6] at H
      have c6b0 : (((rd_T24 l0 x5_1).f0) == a1_0 && (((rd_T24 l0 x5_1).f1) == a1_1)) = true := c6
      (try (have c6b1 : decide (((rd_T24 l0 x5_1).f0) = a1_0 && (((rd_T24 l0 x5_1).f1) == a1_1)) = true := by simpa using c6))
      (try (have c6b2 : (((rd_T24 l0 x5_1).f0) == a1_0 && (((rd_T24 l0 x5_1).f1) == a1_1)) = true := by simpa using c6))
      clear c6
      obtain rfl := Option.some.inj H
      have p264 : 0 ≤ (x5_1 : Int) := of_decide_eq_true (by first | (with_reducible assumption) | assumption)
      have q264 : x5_1 < (l0.length : Int) := of_decide_eq_true (by first | (with_reducible assumption) | assumption)
      obtain ⟨ad264, e264, hx264_0, hx264_1⟩ := at_T24 HR0.out x5_1 p264 q264
      cases e264
      replace hx264_0 := (HB.out.cell (World.block_lt_of_cell? w _ hx264_0)).trans hx264_0
      replace hx264_1 := (HB.out.cell (World.block_lt_of_cell? w _ hx264_1)).trans hx264_1
      replace p264 := eq_true p264
      replace q264 := eq_true q264
      have hcz7_0 : wr.cell? ⟨gb263, 0, none⟩ = some (.int .i64 a1_0) := (blk_cell BK263.out 0).trans rfl
      have hcz7_1 : wr.cell? ⟨gb263, 1, none⟩ = some (.int .i64 a1_1) := (blk_cell BK263.out 1).trans rfl
      have hfz7_0 := blk_frozen BK263.out 0
      have hfz7_1 := blk_frozen BK263.out 1
      go_wp2
      repeat (go_quiet (fail); try go_wp2)
      go_ret
      exact ⟨by first | rfl | (simp [errW_none, errW_some] <;> rfl) | (simp [*, errW_none, errW_some] <;> rfl), by repeat (first | (with_reducible first | exact HB.out | apply below_alloc | apply pw_below_drewN | apply below_drew1 | refine below_set ?_ GE263.out) | exact HB.out)⟩
     ·
      rw [if_neg c6] at H
      have c6b0 : (((rd_T24 l0 x5_1).f0) == a1_0 && (((rd_T24 l0 x5_1).f1) == a1_1)) = false := by simpa using c6
      (try (have c6b1 : decide (((rd_T24 l0 x5_1).f0) = a1_0 && (((rd_T24 l0 x5_1).f1) == a1_1)) = false := by simpa using c6))
      (try (have c6b2 : (((rd_T24 l0 x5_1).f0) == a1_0 && (((rd_T24 l0 x5_1).f1) == a1_1)) = false := by simpa using c6))
      (try (have c6b3 : ¬ (((rd_T24 l0 x5_1).f0) = a1_0 && (((rd_T24 l0 x5_1).f1) == a1_1)) := by simpa using c6))
      clear c6
      have H' := Aside0.mk H
      clear H
      have p264 : 0 ≤ (x5_1 : Int) := of_decide_eq_true (by first | (with_reducible assumption) | assumption)
      have q264 : x5_1 < (l0.length : Int) := of_decide_eq_true (by first | (with_reducible assumption) | assumption)
      obtain ⟨ad264, e264, hx264_0, hx264_1⟩ := at_T24 HR0.out x5_1 p264 q264
      cases e264
      replace hx264_0 := (HB.out.cell (World.block_lt_of_cell? w _ hx264_0)).trans hx264_0
      replace hx264_1 := (HB.out.cell (World.block_lt_of_cell? w _ hx264_1)).trans hx264_1
      replace p264 := eq_true p264
      replace q264 := eq_true q264
      have hcz8_0 : wr.cell? ⟨gb263, 0, none⟩ = some (.int .i64 a1_0) := (blk_cell BK263.out 0).trans rfl
      have hcz8_1 : wr.cell? ⟨gb263, 1, none⟩ = some (.int .i64 a1_1) := (blk_cell BK263.out 1).trans rfl
      have hfz8_0 := blk_frozen BK263.out 0
      have hfz8_1 := blk_frozen BK263.out 1
      go_wp2
      repeat (go_quiet (fail); try go_wp2)
      go_roundg k1
      case measure => have := HK1.out; omega
      case rel => exact ⟨(wrap64 (x5_1 + 1)), (by first | rfl | (simp; done) | (simp [*]; done)), H', ⟨by have := HK1.out; omega⟩, ⟨by (with_reducible repeat (first | refine blk_drewN ?_ _ | refine blk_drew ?_ | refine blk_alloc ?_ _)); exact BK263.out⟩, ⟨by repeat (first | (with_reducible first | exact HB.out | apply below_alloc | apply pw_below_drewN | apply below_drew1 | refine below_set ?_ GE263.out) | exact HB.out)⟩⟩
    ·
     rw [if_neg c5] at H
     exact absurd H (by simp)
   ·
    rw [if_neg c4] at H
    have c4b0 : decide (x5_1 < (l0.length : Int)) = false := decide_eq_false c4
    clear c4
    obtain rfl := Option.some.inj H
    go_wp2
    repeat (go_quiet (fail); try go_wp2)
    go_ret
    exact ⟨by first | rfl | (simp [errW_none, errW_some] <;> rfl) | (simp [*, errW_none, errW_some] <;> rfl), by repeat (first | (with_reducible first | exact HB.out | apply below_alloc | apply pw_below_drewN | apply below_drew1 | refine below_set ?_ GE263.out) | exact HB.out)⟩
end Go.Proofs.YtjlpaagnajmogaaGreat.PWalk
end
section
namespace Go.Proofs.YtjlpaagnajmogaaGreat.PWalk
open Go.RowKit Go.Proofs.YtjlpaagnajmogaaGreatW.PrintWords Go.Proofs.YtjlpaagnajmogaaGreatW.PrintLast Go.Proofs.YtjlpaagnajmogaaGreatW.PrintMore
set_option linter.unusedVariables false
set_option linter.unusedSimpArgs false
open Go.Shelf
attribute [local go_sem] Oper.semAt_some
/-- A rune that the machine can hold. -/
def runeIn (r : Int) : Prop := -9223372036854775808 ≤ r ∧ r ≤ 9223372036854775807
theorem refDot_is (a b : Int) : redpencilref04_Valid.f a b = some (dotOk ⟨a, b⟩) := by
 unfold redpencilref04_Valid.f dotOk
 by_cases h0 : a > 0 <;> by_cases h1 : a ≤ 64 <;> by_cases h2 : b > 0 <;> by_cases h3 : b ≤ 4294967295 <;> simp [h0, h1, h2, h3] <;> omega
theorem refRoot_is (a b : Int) : redpencilref04_Root.f a b = some (dotRoot ⟨a, b⟩) := by
 unfold redpencilref04_Root.f dotRoot
 by_cases h0 : a = 0 <;> by_cases h1 : b = 0 <;> simp [h0, h1]
theorem rdN {l : List Node} {i : Nat} (h : i < l.length) : rd_T35 l (i : Int) = l[i] := by simp [rd_T35, h]
theorem wrap_succ {i n : Nat} (h : i < n) (hn : n ≤ 1000000) : wrap64 ((i : Int) + 1) = ((i + 1 : Nat) : Int) := by unfold wrap64; omega
theorem refFind_from (l : List Node) (hl : l.length ≤ 1000000) (d : Dot) : ∀ (q k i : Nat), i + q = l.length → q < k → redpencilref10_Find.l0 k l (i : Int) d.f0 d.f1 = some (match idxN (l.drop i) i d with | some j => (j : Int) | none => -1) := by
 intro q
 induction q with
 | zero =>
  intro k i hd hk
  obtain ⟨k, rfl⟩ : ∃ m, k = m + 1 := ⟨k - 1, by omega⟩
  simp only [redpencilref10_Find.l0]
  rw [if_neg (by omega), List.drop_of_length_le (by omega)]; rfl
 | succ q ih =>
  intro k i hd hk
  obtain ⟨k, rfl⟩ : ∃ m, k = m + 1 := ⟨k - 1, by omega⟩
  simp only [redpencilref10_Find.l0]
  have hi : i < l.length := by omega
  rw [if_pos (by omega), if_pos (by omega), rdN hi, wrap_succ hi hl, List.drop_eq_getElem_cons hi, idxN]
  have e : ((l[i].f0.f0 == d.f0 && (l[i].f0.f1 == d.f1)) = true) ↔ d = l[i].f0 := by rw [Dot.ext_iff']; simp; omega
  by_cases h : d = l[i].f0
  ·
   rw [if_pos (e.2 h), if_pos h]
  ·
   rw [if_neg (fun hh => h (e.1 hh)), if_neg h]
   exact ih k (i + 1) (by omega) (by omega)
theorem refFind_is (l : List Node) (hl : l.length ≤ 1000000) (d : Dot) (k : Nat) (hk : l.length < k) : redpencilref10_Find.f k l d.f0 d.f1 = some (match idxN l 0 d with | some j => (j : Int) | none => -1) :=
 refFind_from l hl d l.length k 0 (by omega) hk
theorem refValid_is (l : List Node) (hl : l.length ≤ 1000000) (hw : ∀ x ∈ l, runeIn x.f3) (k : Nat) (hk : l.length < k) : redpencilref10_Valid.f k l = some (storeOk l) := by
 unfold redpencilref10_Valid.f
 rw [if_pos ⟨hl, List.all_eq_true.2 fun x hx => decide_eq_true (hw x hx)⟩]
theorem rdD {l : List Dot} {i : Nat} (h : i < l.length) : rd_T24 l (i : Int) = l[i] := by simp [rd_T24, h]
theorem dot_beq (a b : Dot) : (a.f0 == b.f0 && (a.f1 == b.f1)) = decide (a = b) := by
 by_cases h : a = b
 ·
  subst h; simp
 ·
  rw [decide_eq_false h, Bool.eq_false_iff]
  intro hh
  simp only [Bool.and_eq_true, beq_iff_eq] at hh
  exact h (Dot.ext_iff'.2 hh)
theorem refHas_from (l : List Dot) (hl : l.length ≤ 1000000) (d : Dot) : ∀ (q k i : Nat), i + q = l.length → q < k → redpencilref04_Has.l0 k l (i : Int) d.f0 d.f1 = some (decide (d ∈ l.drop i)) := by
 intro q
 induction q with
 | zero =>
  intro k i hi hk
  obtain ⟨k, rfl⟩ : ∃ m, k = m + 1 := ⟨k - 1, by omega⟩
  simp only [redpencilref04_Has.l0]
  rw [if_neg (by omega), List.drop_of_length_le (by omega)]; rfl
 | succ q ih =>
  intro k i hi hk
  obtain ⟨k, rfl⟩ : ∃ m, k = m + 1 := ⟨k - 1, by omega⟩
  have hlt : i < l.length := by omega
  simp only [redpencilref04_Has.l0]
  have hm : d ∈ l.drop i ↔ d = l[i] ∨ d ∈ l.drop (i + 1) := by rw [List.drop_eq_getElem_cons hlt, List.mem_cons]
  rw [if_pos (by omega), if_pos (by omega), rdD hlt, dot_beq, wrap_succ hlt hl, ih k (i + 1) (by omega) (by omega)]
  by_cases h : l[i] = d
  ·
   rw [decide_eq_true h, if_pos rfl, decide_eq_true (hm.2 (.inl h.symm))]
  ·
   rw [decide_eq_false h, if_neg (by simp)]
   congr 1
   rw [decide_eq_decide, hm]
   exact ⟨.inr, fun e => e.resolve_left (Ne.symm h)⟩
theorem refHas_is (l : List Dot) (hl : l.length ≤ 1000000) (d : Dot) (k : Nat) (hk : l.length < k) : redpencilref04_Has.f k l d.f0 d.f1 = some (decide (d ∈ l)) := refHas_from l hl d l.length k 0 (by omega) hk
theorem refSameD_from (l m : List Dot) (hlm : l.length = m.length) (hl : l.length ≤ 1000000) : ∀ (q k i : Nat), i + q = l.length → q < k → redpencilref04_Same.l0 k l m (i : Int) = some (decide (l.drop i = m.drop i)) := by
 intro q
 induction q with
 | zero =>
  intro k i hi hk
  obtain ⟨k, rfl⟩ : ∃ m, k = m + 1 := ⟨k - 1, by omega⟩
  simp only [redpencilref04_Same.l0]
  rw [if_neg (by omega), List.drop_of_length_le (by omega), List.drop_of_length_le (by omega)]; simp
 | succ q ih =>
  intro k i hi hk
  obtain ⟨k, rfl⟩ : ∃ m, k = m + 1 := ⟨k - 1, by omega⟩
  have hlt : i < l.length := by omega
  have hlt2 : i < m.length := by omega
  simp only [redpencilref04_Same.l0]
  have hm : l.drop i = m.drop i ↔ l[i] = m[i] ∧ l.drop (i + 1) = m.drop (i + 1) := by rw [List.drop_eq_getElem_cons hlt, List.drop_eq_getElem_cons hlt2, List.cons.injEq]
  rw [if_pos (by omega), if_pos (by omega), if_pos (by omega), rdD hlt, rdD hlt2, ← Bool.not_and, dot_beq, wrap_succ hlt hl, ih k (i + 1) (by omega) (by omega)]
  by_cases h : l[i] = m[i]
  ·
   rw [decide_eq_true h, if_neg (by simp)]
   congr 1
   rw [decide_eq_decide, hm]
   exact ⟨fun e => ⟨h, e⟩, fun e => e.2⟩
  ·
   rw [decide_eq_false h, if_pos (show (!false) = true from rfl), decide_eq_false (fun e => h (hm.1 e).1)]
theorem refSameD_is (l m : List Dot) (hl : l.length ≤ 1000000) (k : Nat) (hk : l.length < k) : redpencilref04_Same.f k l m = some (decide (l = m)) := by
 unfold redpencilref04_Same.f
 by_cases h : l.length = m.length
 ·
  rw [if_pos (by omega)]
  have := refSameD_from l m h hl l.length k 0 (by omega) hk
  simpa using this
 ·
  rw [if_neg (by omega)]
  have : l ≠ m := fun e => h (by rw [e])
  simp [this]
theorem refPath_from (l : List Node) (hl : l.length ≤ 1000000) : ∀ (q k i : Nat) (d : Dot) (out : List Dot), i + q = l.length + 1 → out.length ≤ i → q + l.length + 1 < k → redpencilref11_Path.l0 k l out (i : Int) d.f0 d.f1 = some (match upFrom l q d out with | some p => (p, true) | none => ([], false)) := by
 intro q
 induction q with
 | zero =>
  intro k i d out hi ho hk
  obtain ⟨k, rfl⟩ : ∃ m, k = m + 1 := ⟨k - 1, by omega⟩
  simp only [redpencilref11_Path.l0]
  rw [if_neg (by omega)]; rfl
 | succ q ih =>
  intro k i d out hi ho hk
  obtain ⟨k, rfl⟩ : ∃ m, k = m + 1 := ⟨k - 1, by omega⟩
  simp only [redpencilref11_Path.l0]
  rw [if_pos (by omega), refRoot_is, upFrom]
  simp only [Option.bind_some]
  by_cases hr : dotRoot d = true
  ·
   rw [if_pos hr, if_pos hr]
  ·
   rw [if_neg hr, if_neg hr, refFind_is l hl d k (by omega)]
   simp only [Option.bind_some]
   cases hj : idxN l 0 d with
   | none => simp
   | some j =>
    obtain ⟨x, hx, hxd⟩ := idxN_some hj
    rw [Nat.sub_zero] at hx
    have hjl := (List.getElem?_eq_some_iff.1 hx).1
    simp only [hx]
    have hw : wrap64 ((i : Int) + 1) = ((i + 1 : Nat) : Int) := by unfold wrap64; omega
    rw [if_neg (by omega), if_pos (by simp; omega), if_pos (by omega), if_pos (by omega), rdN hjl, (List.getElem?_eq_some_iff.1 hx).2, hw]
    exact ih k (i + 1) x.f1 (d :: out) (by omega) (by simp; omega) (by omega)
theorem refPath_is (l : List Node) (hl : l.length ≤ 1000000) (d : Dot) (k : Nat) (hk : 2 * l.length + 2 < k) : redpencilref11_Path.f k l d.f0 d.f1 = some (match pathOf l d with | some p => (p, true) | none => ([], false)) :=
 refPath_from l hl (l.length + 1) k 0 d [] (by omega) (by simp) (by omega)
end Go.Proofs.YtjlpaagnajmogaaGreat.PWalk
end
section
namespace Go.Proofs.YtjlpaagnajmogaaGreat.PWalk
open Go.RowKit Go.Proofs.YtjlpaagnajmogaaGreatW.PrintWords Go.Proofs.YtjlpaagnajmogaaGreatW.PrintLast Go.Proofs.YtjlpaagnajmogaaGreatW.PrintMore
set_option linter.unusedVariables false
set_option linter.unusedSimpArgs false
open Go.Shelf
attribute [local go_sem] Oper.semAt_some
theorem order_is {l : List Node} (hl : l.length ≤ 400000) (hs : storeOk l = true) : redpencilref11_Order.f l = some (nds (ordOf l)) := by
 unfold redpencilref11_Order.f redpencilref11_Below.f
 have hp : (pathOf l ⟨0, 0⟩).isSome = true := rfl
 rw [if_pos ⟨hl, hs, hp⟩]
 rfl
end Go.Proofs.YtjlpaagnajmogaaGreat.PWalk
end
section
namespace Go.Proofs.YtjlpaagnajmogaaGreat.PWalk
open Go.RowKit Go.Proofs.YtjlpaagnajmogaaGreatW.PrintWords Go.Proofs.YtjlpaagnajmogaaGreatW.PrintLast Go.Proofs.YtjlpaagnajmogaaGreatW.PrintMore
set_option linter.unusedVariables false
set_option linter.unusedSimpArgs false
open Go.Shelf
attribute [local go_sem] Oper.semAt_some
theorem op_append_dotN {o : Oper} {a : Act} {K : Act → World → Prop} {Q : Exit → Act → World → Prop} {W : World} (base : Nat) (hgd : o.guard = none) (s x : Operand)
  (ho : o.op = .call { callee := .builtin .append, args := #[s, x], argTypes := #[41, 41] }) (v : Value) (xs ys : List Dot) (A : Option Addr) (m c : Nat) (hs : a.eval s = v) (hx : a.eval x = .slice A m c)
  (hr : RD W base v xs) (hc : Kd.C k24 W A m ys) (hb : base ≤ W.heap.size) (hl : xs.length + m ≤ 1000000)
  (h : ∀ v1 w1, RD w1 base v1 (xs ++ ys) → W.grownBy w1 v.ownBlock → (v1.ownBlock = v.ownBlock ∨ ∃ b, v1.ownBlock = some b ∧ W.heap.size ≤ b) → K (a.put o.dst v1) w1) : o.wp Tryz.prog a W K Q := by
 have hw : Region.wanted o (yielded #[] a.tmps) = true := by simp [Region.wanted, hgd]
 have := Kd.R_append_rows_step (P := Tryz.prog) (ops := #[]) (Q := Q) (Kc := K) k24 (w0 := W) base hw s x 41 24 (.agg #[(.int .i64 0), (.int .i64 0)]) 16 ho Tryz.underlying41 infoD rfl (by decide) (by decide) v xs ys A m c (fun _ => True) (fun _ => False) hs hx hr hc (fun x cs h => (by rw [k24_open h]; exact k24_mkM _ _ _ x)) (fun _ hk => hk.elim) (fun _ _ => trivial) (Below.refl _ _) hb (by omega)
  (fun v1 w1 h1 _ h3 h4 => h v1 w1 h1 h3 h4)
 rwa [if_pos hw] at this
theorem grown_belowD {W0 V V' : World} {v : Value} {xs : List Dot} (hb : Below W0.heap.size W0 V) (hr : RD V W0.heap.size v xs) (hg : V.grownBy V' v.ownBlock) : Below W0.heap.size W0 V' :=
 hb.grown hg hb.size (fun k e => (RD.block hr e).1)
theorem dotC_C {W : World} {g : Nat} {d : Dot} (h : W.heap[g]? = some (dotC d)) : Kd.C k24 W (some ⟨g, 0, none⟩) 1 [d] := by
 refine ⟨rfl, by simp, fun _ => ⟨_, rfl, fun i y hi => ?_⟩⟩
 have h0 : i = 0 := by
  have := (List.getElem?_eq_some_iff.1 hi).1
  simp at this; exact this
 subst h0
 simp at hi
 subst hi
 refine ⟨dotCells d, rfl, k24.K_of_M (k24_mkM W 0 (fun _ => True) d), fun j u hu => ?_⟩
 rw [show (⟨g, 0, none⟩ : Addr).add (0 * (k24).sz + j) = ⟨g, j, none⟩ by rw [Nat.zero_mul, Nat.zero_add, add_lit, Nat.zero_add]]
 rw [blk_cell h, ← Array.getElem?_toList]
 exact hu
/-- What has come up in the triple append. -/
structure RwF (W0 : World) (s : List Dot) (d : Dot) (k : Nat) (l3 l5 l6 l10 l11 : Bool) (g : Nat) (v1 v2 v3 : Value) (V : World) : Prop where
 ord6 : l6 = true → l3 = true ∧ l5 = true
 ord10 : l10 = true → l6 = true
 ord11 : l11 = true → l10 = true
 below : Below W0.heap.size W0 V
 r1 : l3 = true → l6 = false → RD V W0.heap.size v1 (s.take k)
 bx : l5 = true → l6 = false → V.heap[g]? = some (dotC d)
 r2 : l6 = true → l10 = false → RD V W0.heap.size v2 (s.take k ++ [d])
 r3 : l10 = true → RD V W0.heap.size v3 (withD s d)
theorem RwF.no {W0 : World} {s : List Dot} {d : Dot} {k : Nat} {l3 l5 l6 l10 l11 : Bool} {g : Nat} {v1 v2 v3 : Value} {V : World} (h : RwF W0 s d k l3 l5 l6 l10 l11 g v1 v2 v3 V) (hl : l3 = false ∨ l5 = false) : l6 = false ∧ l10 = false ∧ l11 = false := by
 have h6 : l6 = false := by
  cases l6 with
  | false => rfl
  | true => obtain ⟨rfl, rfl⟩ := h.ord6 rfl; rcases hl with e | e <;> cases e
 have h10 : l10 = false := by
  cases l10 with
  | false => rfl
  | true => have := h.ord10 rfl; rw [h6] at this; cases this
 refine ⟨h6, h10, ?_⟩
 cases l11 with
 | false => rfl
 | true => have := h.ord11 rfl; rw [h10] at this; cases this
def rw4Inv (W0 : World) (ad : Addr) (n c0 B k : Nat) (y d : Dot) (b1 b2 : Bool) (z1 z2 z4 z6 z7 z8 z9 z10 z11 z12 z13 z14 z15 z16 z17 z18 z19 z20 z21 z22 z23 z24 z25 z26 z27 z28 z29 z30 z31 z32 z33 z34 : Value) (L : Array Bool) (ac : Act) (V : World) : Prop := ∃ (l0 l1 l2 l3 l4 l5 l6 l7 l8 l9 l10 l11 : Bool), L = #[l0, l1, l2, l3, l4, l5, l6, l7, l8, l9, l10, l11] ∧ ac = { tmps := #[.slice (some ad) n c0, z1, z2, .pointer (some ⟨B, 0, none⟩), z4, .int .i64 (k : Int), z6, z7, z8, z9, selv l0 (.int .i64 (k : Int)) (z10), selv l1 (.slice (some ad) n c0) (z11), selv l2 (.int .i64 (n : Int)) (z12), selv l3 (.bool b1) (z13), selv l4 (.bool b1) (z14), selv l5 (.slice (some ad) n c0) (z15), selv l6 (.int .i64 (k : Int)) (z16), selv l7 (.pointer (some (ad.add (k * 2)))) (z17), selv l8 (vDot y) (z18), selv l9 (vDot d) (z19), selv l10 (.bool b2) (z20), selv l11 (.bool b2) (z21), z22, z23, z24, z25, z26, z27, z28, z29, z30, z31, z32, z33, z34], defers := [] } ∧ Aside0 (Below W0.heap.size W0 V)
def rw4eInv (W0 : World) (Ao : Option Addr) (n c0 B k : Nat) (y d : Dot) (b1 b2 : Bool) (z1 z2 z4 z6 z7 z8 z9 z10 z11 z12 z13 z14 z15 z16 z17 z18 z19 z20 z21 z22 z23 z24 z25 z26 z27 z28 z29 z30 z31 z32 z33 z34 : Value) (L : Array Bool) (ac : Act) (V : World) : Prop := ∃ (l0 l1 l2 l3 l4 l5 l6 l7 l8 l9 l10 l11 : Bool), L = #[l0, l1, l2, l3, l4, l5, l6, l7, l8, l9, l10, l11] ∧ ac = { tmps := #[.slice Ao n c0, z1, z2, .pointer (some ⟨B, 0, none⟩), z4, .int .i64 (k : Int), z6, z7, z8, z9, selv l0 (.int .i64 (k : Int)) (z10), selv l1 (.slice Ao n c0) (z11), selv l2 (.int .i64 (n : Int)) (z12), selv l3 (.bool b1) (z13), selv l4 (.bool b1) (z14), selv l5 (undef) (z15), selv l6 (undef) (z16), selv l7 (undef) (z17), selv l8 (undef) (z18), selv l9 (undef) (z19), selv l10 (undef) (z20), selv l11 (.bool b2) (z21), z22, z23, z24, z25, z26, z27, z28, z29, z30, z31, z32, z33, z34], defers := [] } ∧ Aside0 (Below W0.heap.size W0 V)
def rw6Inv (W0 : World) (Ao Ac : Option Addr) (n c0 B k m3 q3 : Nat) (d : Dot) (s : List Dot) (z1 z2 z6 z7 z8 z9 z10 z11 z12 z13 z14 z15 z16 z17 z18 z19 z20 z21 z22 z23 z24 z25 z26 z27 z28 z29 z30 z31 z32 z33 z34 : Value) (L : Array Bool) (ac : Act) (V : World) : Prop := ∃ (l0 l1 l2 l3 l4 l5 l6 l7 l8 l9 l10 l11 : Bool) (g : Nat) (v1 : Value) (v2 : Value) (v3 : Value), L = #[l0, l1, l2, l3, l4, l5, l6, l7, l8, l9, l10, l11] ∧ ac = { tmps := #[.slice Ao n c0, z1, z2, .pointer (some ⟨B, 0, none⟩), selv l11 (v3) (.slice none 0 0), .int .i64 (k : Int), z6, z7, z8, z9, z10, z11, z12, z13, z14, z15, z16, z17, z18, z19, z20, z21, z22, z23, selv l0 (.slice Ao n c0) (z24), selv l1 (.int .i64 (k : Int)) (z25), selv l2 (.slice Ao k c0) (z26), selv l3 (v1) (z27), selv l4 (vDot d) (z28), selv l5 (.slice (some ⟨g, 0, none⟩) 1 1) (z29), selv l6 (v2) (z30), selv l7 (.slice Ao n c0) (z31), selv l8 (.int .i64 (k : Int)) (z32), selv l9 (.slice Ac m3 q3) (z33), selv l10 (v3) (z34)], defers := [] } ∧ Aside0 (RwF W0 s d k l3 l5 l6 l10 l11 g v1 v2 v3 V)
set_option maxHeartbeats 4000000 in
set_option maxRecDepth 100000 in
theorem refWith_call (base : Nat) (A0 : Option Addr) (n c0 : Nat) (s : List Dot) (d : Dot) (w : World) (hs : RD w base (.slice A0 n c0) s) (hb : base ≤ w.heap.size) (hl : n ≤ 400000) :
  Calls Tryz.prog 73 #[.slice A0 n c0, vDot d] w fun e w' => ∃ v, e = .returned v ∧ RD w' base v (withD s d) ∧ Below w.heap.size w w' := by
 obtain ⟨hn, hnc, hC⟩ := RD.C hs
 have HS := Aside0.mk hs
 have HBS := Aside0.mk hb
 have Hn := Aside0.mk hn
 have HNC := Aside0.mk hnc
 have HC := Aside0.mk hC
 have HB0 := Aside0.mk (Gr.alloc w (dotC d)).below
 have HK0 := Aside0.mk (blk_new w (dotC d))
 have hhas := redpencilref04_Has.calls 1000002 A0 c0 s d.f0 d.f1 (decide (d ∈ s)) (w.alloc (dotC d)) (by rw [hn]; exact Kd.C_below hC HB0.out) (by rw [hn]; exact hnc) (refHas_is s (by omega) d 1000002 (by omega))
 rw [hn] at hhas
 have HH := Aside0.mk hhas
 have k0 : (w.alloc (dotC d)).cell? ⟨w.heap.size, 0, none⟩ = _ := (blk_cell HK0.out 0).trans rfl
 have k1 : (w.alloc (dotC d)).cell? ⟨w.heap.size, 1, none⟩ = _ := (blk_cell HK0.out 1).trans rfl
 have HN4 := Aside0.mk hl
 clear hs hb hn hnc hC hhas
 go_enter Tryz.func73, Tryz.ntmps73
 go_wp2_with fail
 refine HH.out.mono ?_
 rintro e w1 ⟨rfl, hb⟩
 have HB1 := Aside0.mk (below_more HB0.out hb)
 have HK1 := Aside0.mk (blk_keep HK0.out hb)
 clear hb k0 k1 HK0 HB0 HH
 obtain ⟨b, Hb⟩ : ∃ b, Aside0 (decide (d ∈ s) = b) := ⟨_, ⟨rfl⟩⟩
 rw [Hb.out]
 cases b with
 | true =>
  go_wp2
  go_ret
  exact ⟨_, rfl, by unfold withD; rw [if_pos (of_decide_eq_true Hb.out)]; exact RD.below' HS.out HB1.out, HB1.out⟩
 | false =>
  have HND : Aside0 (d ∉ s) := ⟨of_decide_eq_false Hb.out⟩
  obtain ⟨B, HBe⟩ : ∃ B, Aside0 (w.heap.size = B) := ⟨_, ⟨rfl⟩⟩
  rw [HBe.out] at HK1
  go_wp2
  rw [show (Value.pointer (some { block := w.heap.size, off := 0 })) = .pointer (some ⟨B, 0, none⟩) by rw [HBe.out]]
  go_loopw [5] (fun j wr => ∃ k : Nat, k ≤ n ∧ j = .int .i64 k ∧ Aside0 (∀ q y, q < k → s[q]? = some y → dotLt y d = true) ∧ Aside0 (Below w1.heap.size w1 wr)) (fun j _ => n - (intOf j).toNat)
  case atStart => exact ⟨0, Nat.zero_le _, rfl, ⟨fun q y hq => absurd hq (Nat.not_lt_zero _)⟩, ⟨Below.refl _ _⟩⟩
  case round =>
   obtain ⟨k, hk, rfl, HPRE, HB2⟩ := hrel
   by_cases hkl : k < n
   ·
    obtain ⟨y, Hy⟩ : ∃ y, Aside0 (s[k]? = some y) := ⟨_, ⟨List.getElem?_eq_getElem (by rw [Hn.out]; exact hkl)⟩⟩
    obtain ⟨ad, e, y0, y1⟩ := dot_at HC.out (below_more HB1.out HB2.out) k y Hy.out
    subst e
    have HY := Aside0.mk (And.intro y0 y1)
    have HKB := Aside0.mk (blk_keep HK1.out HB2.out)
    have HKN : Aside0 (k < n ∧ n ≤ 400000) := ⟨hkl, HN4.out⟩
    clear y0 y1
    obtain ⟨b, Hb2⟩ : ∃ b, Aside0 (dotLt y d = b) := ⟨_, ⟨rfl⟩⟩
    cases b with
    | true =>
     go_wp2
     refine AnyOrder.wp_region (by kernel_rfl) (rw4Inv wr.drew ad n c0 B k y d true true _ _ _ _ _ _ _ _ _ _ _ _ _ _ _ _ _ _ _ _ _ _ _ _ _ _ _ _ _ _ _ _) ⟨false, false, false, false, false, false, false, false, false, false, false, false, rfl, rfl, ⟨Below.refl _ _⟩⟩ ?step ?last
     case step =>
      rintro L ac V i ⟨l0, l1, l2, l3, l4, l5, l6, l7, l8, l9, l10, l11, rfl, rfl, HF⟩ hi K hK
      have h1 : i = 0 ∨ i = 1 ∨ i = 2 ∨ i = 3 ∨ i = 4 ∨ i = 5 ∨ i = 6 ∨ i = 7 ∨ i = 8 ∨ i = 9 ∨ i = 10 ∨ i = 11 := by
       have h1 := (AnyOrder.mem_ready hi).1
       clear hi hK
       change i < 12 at h1
       omega
      rcases h1 with rfl | rfl | rfl | rfl | rfl | rfl | rfl | rfl | rfl | rfl | rfl | rfl
      ·
       obtain rfl : l0 = false := (AnyOrder.mem_ready hi).2.1
       clear hi
       refine AnyOrder.wpOp_go rfl (by rfl) ?_
       go_wp2_with fail
       exact ⟨true, l1, l2, l3, l4, l5, l6, l7, l8, l9, l10, l11, rfl, rfl, HF⟩
      ·
       obtain rfl : l1 = false := (AnyOrder.mem_ready hi).2.1
       clear hi
       refine AnyOrder.wpOp_go rfl (by rfl) ?_
       go_wp2_with fail
       exact ⟨l0, true, l2, l3, l4, l5, l6, l7, l8, l9, l10, l11, rfl, rfl, HF⟩
      ·
       obtain rfl : l2 = false := (AnyOrder.mem_ready hi).2.1
       obtain rfl : l1 = true := AnyOrder.dep (q := 0) hi rfl rfl rfl
       clear hi
       simp only [sel_true, selv_true] at hK ⊢
       refine AnyOrder.wpOp_go rfl (by rfl) ?_
       go_wp2_with fail
       exact ⟨l0, true, true, l3, l4, l5, l6, l7, l8, l9, l10, l11, rfl, rfl, HF⟩
      ·
       obtain rfl : l3 = false := (AnyOrder.mem_ready hi).2.1
       obtain rfl : l0 = true := AnyOrder.dep (q := 0) hi rfl rfl rfl
       obtain rfl : l2 = true := AnyOrder.dep (q := 1) hi rfl rfl rfl
       clear hi
       simp only [sel_true, selv_true] at hK ⊢
       have hdec : decide ((k : Int) < (n : Int)) = true := decide_eq_true (by omega)
       refine AnyOrder.wpOp_go rfl (by rfl) ?_
       go_wp2_with fail
       exact ⟨true, l1, true, true, l4, l5, l6, l7, l8, l9, l10, l11, rfl, rfl, HF⟩
      ·
       obtain rfl : l4 = false := (AnyOrder.mem_ready hi).2.1
       obtain rfl : l3 = true := AnyOrder.dep (q := 0) hi rfl rfl rfl
       clear hi
       simp only [sel_true, selv_true] at hK ⊢
       refine AnyOrder.wpOp_go rfl (by rfl) ?_
       go_wp2_with fail
       exact ⟨l0, l1, l2, true, true, l5, l6, l7, l8, l9, l10, l11, rfl, rfl, HF⟩
      ·
       obtain rfl : l5 = false := (AnyOrder.mem_ready hi).2.1
       obtain rfl : l4 = true := AnyOrder.dep (q := 0) hi rfl rfl rfl
       clear hi
       simp only [sel_true, selv_true] at hK ⊢
       refine AnyOrder.wpOp_go rfl (by rfl) ?_
       go_wp2_with fail
       exact ⟨l0, l1, l2, l3, true, true, l6, l7, l8, l9, l10, l11, rfl, rfl, HF⟩
      ·
       obtain rfl : l6 = false := (AnyOrder.mem_ready hi).2.1
       obtain rfl : l4 = true := AnyOrder.dep (q := 0) hi rfl rfl rfl
       clear hi
       simp only [sel_true, selv_true] at hK ⊢
       refine AnyOrder.wpOp_go rfl (by rfl) ?_
       go_wp2_with fail
       exact ⟨l0, l1, l2, l3, true, l5, true, l7, l8, l9, l10, l11, rfl, rfl, HF⟩
      ·
       obtain rfl : l7 = false := (AnyOrder.mem_ready hi).2.1
       obtain rfl : l5 = true := AnyOrder.dep (q := 0) hi rfl rfl rfl
       obtain rfl : l6 = true := AnyOrder.dep (q := 1) hi rfl rfl rfl
       obtain rfl : l4 = true := AnyOrder.dep (q := 2) hi rfl rfl rfl
       clear hi
       simp only [sel_true, selv_true] at hK ⊢
       have hkk := HKN.out.1
       have hkl2 := HKN.out.2
       refine AnyOrder.wpOp_go rfl (by rfl) ?_
       go_wp2_with fail
       exact ⟨l0, l1, l2, l3, true, true, true, true, l8, l9, l10, l11, rfl, rfl, HF⟩
      ·
       obtain rfl : l8 = false := (AnyOrder.mem_ready hi).2.1
       obtain rfl : l7 = true := AnyOrder.dep (q := 0) hi rfl rfl rfl
       obtain rfl : l4 = true := AnyOrder.dep (q := 1) hi rfl rfl rfl
       clear hi
       simp only [sel_true, selv_true] at hK ⊢
       obtain ⟨y0, y1⟩ := HY.out
       have y0 := pw_cell_below HF.out y0
       have y1 := pw_cell_below HF.out y1
       refine AnyOrder.wpOp_go rfl (by rfl) ?_
       go_wp2_with fail
       exact ⟨l0, l1, l2, l3, true, l5, l6, true, true, l9, l10, l11, rfl, rfl, HF⟩
      ·
       obtain rfl : l9 = false := (AnyOrder.mem_ready hi).2.1
       obtain rfl : l4 = true := AnyOrder.dep (q := 0) hi rfl rfl rfl
       clear hi
       simp only [sel_true, selv_true] at hK ⊢
       have hkb := blk_keep (blk_drew HKB.out) HF.out
       have q0 : V.cell? ⟨B, 0, none⟩ = _ := (blk_cell hkb 0).trans rfl
       have q1 : V.cell? ⟨B, 1, none⟩ = _ := (blk_cell hkb 1).trans rfl
       refine AnyOrder.wpOp_go rfl (by rfl) ?_
       go_wp2_with fail
       exact ⟨l0, l1, l2, l3, true, l5, l6, l7, l8, true, l10, l11, rfl, rfl, HF⟩
      ·
       obtain rfl : l10 = false := (AnyOrder.mem_ready hi).2.1
       obtain rfl : l8 = true := AnyOrder.dep (q := 0) hi rfl rfl rfl
       obtain rfl : l9 = true := AnyOrder.dep (q := 1) hi rfl rfl rfl
       obtain rfl : l4 = true := AnyOrder.dep (q := 2) hi rfl rfl rfl
       clear hi
       simp only [sel_true, selv_true] at hK ⊢
       refine AnyOrder.wpOp_go rfl (by rfl) ?_
       go_wp2_with fail
       refine (redpencilref04_Less.calls _ _ _ _ true V (by rw [less_is, Hb2.out])).mono ?_
       rintro e V' ⟨rfl, hb⟩
       exact hK _ _ ⟨l0, l1, l2, l3, true, l5, l6, l7, true, true, true, l11, rfl, rfl, ⟨below_more HF.out hb⟩⟩
      ·
       obtain rfl : l11 = false := (AnyOrder.mem_ready hi).2.1
       obtain rfl : l4 = true := AnyOrder.dep (q := 0) hi rfl rfl rfl
       obtain rfl : l10 = true := AnyOrder.dep (q := 1) hi rfl rfl rfl
       clear hi
       simp only [sel_true, selv_true] at hK ⊢
       refine AnyOrder.wpOp_go rfl (by rfl) ?_
       go_wp2_with fail
       exact ⟨l0, l1, l2, l3, true, l5, l6, l7, l8, l9, true, true, rfl, rfl, HF⟩
     case last =>
      rintro L ac V ⟨l0, l1, l2, l3, l4, l5, l6, l7, l8, l9, l10, l11, rfl, rfl, HF⟩ hr
      have hall := AnyOrder.all_listed rfl (by kernel_rfl) hr
      clear hr
      obtain rfl : l0 = true := hall 0 (by decide)
      obtain rfl : l1 = true := hall 1 (by decide)
      obtain rfl : l2 = true := hall 2 (by decide)
      obtain rfl : l3 = true := hall 3 (by decide)
      obtain rfl : l4 = true := hall 4 (by decide)
      obtain rfl : l5 = true := hall 5 (by decide)
      obtain rfl : l6 = true := hall 6 (by decide)
      obtain rfl : l7 = true := hall 7 (by decide)
      obtain rfl : l8 = true := hall 8 (by decide)
      obtain rfl : l9 = true := hall 9 (by decide)
      obtain rfl : l10 = true := hall 10 (by decide)
      obtain rfl : l11 = true := hall 11 (by decide)
      clear hall
      simp only [sel_true, selv_true]
      have HHF := Aside0.mk (below_more (below_drew1 HB2.out) HF.out)
      have hno4 := HN4.out
      go_wp2
      go_roundw
      case rel => exact ⟨k + 1, by omega, by go_num, ⟨fun q z hq hz => by rcases Nat.lt_succ_iff_lt_or_eq.1 hq with h | h; exact HPRE.out q z h hz; subst h; rw [Hy.out] at hz; cases hz; exact Hb2.out⟩, HHF⟩
      case measure => simp [intOf] <;> omega
    | false =>
     have HCUT : Aside0 (withD s d = s.take k ++ [d] ++ s.drop k) := ⟨by unfold withD; rw [if_neg HND.out, cutD_is (k := k) (by rw [Hn.out]; exact hk) HPRE.out (fun z hz => by rw [Hy.out] at hz; cases hz; exact Hb2.out)]; simp⟩
     go_wp2
     refine AnyOrder.wp_region (by kernel_rfl) (rw4Inv wr.drew ad n c0 B k y d true false _ _ _ _ _ _ _ _ _ _ _ _ _ _ _ _ _ _ _ _ _ _ _ _ _ _ _ _ _ _ _ _) ⟨false, false, false, false, false, false, false, false, false, false, false, false, rfl, rfl, ⟨Below.refl _ _⟩⟩ ?step ?last
     case step =>
      rintro L ac V i ⟨l0, l1, l2, l3, l4, l5, l6, l7, l8, l9, l10, l11, rfl, rfl, HF⟩ hi K hK
      have h1 : i = 0 ∨ i = 1 ∨ i = 2 ∨ i = 3 ∨ i = 4 ∨ i = 5 ∨ i = 6 ∨ i = 7 ∨ i = 8 ∨ i = 9 ∨ i = 10 ∨ i = 11 := by
       have h1 := (AnyOrder.mem_ready hi).1
       clear hi hK
       change i < 12 at h1
       omega
      rcases h1 with rfl | rfl | rfl | rfl | rfl | rfl | rfl | rfl | rfl | rfl | rfl | rfl
      ·
       obtain rfl : l0 = false := (AnyOrder.mem_ready hi).2.1
       clear hi
       refine AnyOrder.wpOp_go rfl (by rfl) ?_
       go_wp2_with fail
       exact ⟨true, l1, l2, l3, l4, l5, l6, l7, l8, l9, l10, l11, rfl, rfl, HF⟩
      ·
       obtain rfl : l1 = false := (AnyOrder.mem_ready hi).2.1
       clear hi
       refine AnyOrder.wpOp_go rfl (by rfl) ?_
       go_wp2_with fail
       exact ⟨l0, true, l2, l3, l4, l5, l6, l7, l8, l9, l10, l11, rfl, rfl, HF⟩
      ·
       obtain rfl : l2 = false := (AnyOrder.mem_ready hi).2.1
       obtain rfl : l1 = true := AnyOrder.dep (q := 0) hi rfl rfl rfl
       clear hi
       simp only [sel_true, selv_true] at hK ⊢
       refine AnyOrder.wpOp_go rfl (by rfl) ?_
       go_wp2_with fail
       exact ⟨l0, true, true, l3, l4, l5, l6, l7, l8, l9, l10, l11, rfl, rfl, HF⟩
      ·
       obtain rfl : l3 = false := (AnyOrder.mem_ready hi).2.1
       obtain rfl : l0 = true := AnyOrder.dep (q := 0) hi rfl rfl rfl
       obtain rfl : l2 = true := AnyOrder.dep (q := 1) hi rfl rfl rfl
       clear hi
       simp only [sel_true, selv_true] at hK ⊢
       have hdec : decide ((k : Int) < (n : Int)) = true := decide_eq_true (by omega)
       refine AnyOrder.wpOp_go rfl (by rfl) ?_
       go_wp2_with fail
       exact ⟨true, l1, true, true, l4, l5, l6, l7, l8, l9, l10, l11, rfl, rfl, HF⟩
      ·
       obtain rfl : l4 = false := (AnyOrder.mem_ready hi).2.1
       obtain rfl : l3 = true := AnyOrder.dep (q := 0) hi rfl rfl rfl
       clear hi
       simp only [sel_true, selv_true] at hK ⊢
       refine AnyOrder.wpOp_go rfl (by rfl) ?_
       go_wp2_with fail
       exact ⟨l0, l1, l2, true, true, l5, l6, l7, l8, l9, l10, l11, rfl, rfl, HF⟩
      ·
       obtain rfl : l5 = false := (AnyOrder.mem_ready hi).2.1
       obtain rfl : l4 = true := AnyOrder.dep (q := 0) hi rfl rfl rfl
       clear hi
       simp only [sel_true, selv_true] at hK ⊢
       refine AnyOrder.wpOp_go rfl (by rfl) ?_
       go_wp2_with fail
       exact ⟨l0, l1, l2, l3, true, true, l6, l7, l8, l9, l10, l11, rfl, rfl, HF⟩
      ·
       obtain rfl : l6 = false := (AnyOrder.mem_ready hi).2.1
       obtain rfl : l4 = true := AnyOrder.dep (q := 0) hi rfl rfl rfl
       clear hi
       simp only [sel_true, selv_true] at hK ⊢
       refine AnyOrder.wpOp_go rfl (by rfl) ?_
       go_wp2_with fail
       exact ⟨l0, l1, l2, l3, true, l5, true, l7, l8, l9, l10, l11, rfl, rfl, HF⟩
      ·
       obtain rfl : l7 = false := (AnyOrder.mem_ready hi).2.1
       obtain rfl : l5 = true := AnyOrder.dep (q := 0) hi rfl rfl rfl
       obtain rfl : l6 = true := AnyOrder.dep (q := 1) hi rfl rfl rfl
       obtain rfl : l4 = true := AnyOrder.dep (q := 2) hi rfl rfl rfl
       clear hi
       simp only [sel_true, selv_true] at hK ⊢
       have hkk := HKN.out.1
       have hkl2 := HKN.out.2
       refine AnyOrder.wpOp_go rfl (by rfl) ?_
       go_wp2_with fail
       exact ⟨l0, l1, l2, l3, true, true, true, true, l8, l9, l10, l11, rfl, rfl, HF⟩
      ·
       obtain rfl : l8 = false := (AnyOrder.mem_ready hi).2.1
       obtain rfl : l7 = true := AnyOrder.dep (q := 0) hi rfl rfl rfl
       obtain rfl : l4 = true := AnyOrder.dep (q := 1) hi rfl rfl rfl
       clear hi
       simp only [sel_true, selv_true] at hK ⊢
       obtain ⟨y0, y1⟩ := HY.out
       have y0 := pw_cell_below HF.out y0
       have y1 := pw_cell_below HF.out y1
       refine AnyOrder.wpOp_go rfl (by rfl) ?_
       go_wp2_with fail
       exact ⟨l0, l1, l2, l3, true, l5, l6, true, true, l9, l10, l11, rfl, rfl, HF⟩
      ·
       obtain rfl : l9 = false := (AnyOrder.mem_ready hi).2.1
       obtain rfl : l4 = true := AnyOrder.dep (q := 0) hi rfl rfl rfl
       clear hi
       simp only [sel_true, selv_true] at hK ⊢
       have hkb := blk_keep (blk_drew HKB.out) HF.out
       have q0 : V.cell? ⟨B, 0, none⟩ = _ := (blk_cell hkb 0).trans rfl
       have q1 : V.cell? ⟨B, 1, none⟩ = _ := (blk_cell hkb 1).trans rfl
       refine AnyOrder.wpOp_go rfl (by rfl) ?_
       go_wp2_with fail
       exact ⟨l0, l1, l2, l3, true, l5, l6, l7, l8, true, l10, l11, rfl, rfl, HF⟩
      ·
       obtain rfl : l10 = false := (AnyOrder.mem_ready hi).2.1
       obtain rfl : l8 = true := AnyOrder.dep (q := 0) hi rfl rfl rfl
       obtain rfl : l9 = true := AnyOrder.dep (q := 1) hi rfl rfl rfl
       obtain rfl : l4 = true := AnyOrder.dep (q := 2) hi rfl rfl rfl
       clear hi
       simp only [sel_true, selv_true] at hK ⊢
       refine AnyOrder.wpOp_go rfl (by rfl) ?_
       go_wp2_with fail
       refine (redpencilref04_Less.calls _ _ _ _ false V (by rw [less_is, Hb2.out])).mono ?_
       rintro e V' ⟨rfl, hb⟩
       exact hK _ _ ⟨l0, l1, l2, l3, true, l5, l6, l7, true, true, true, l11, rfl, rfl, ⟨below_more HF.out hb⟩⟩
      ·
       obtain rfl : l11 = false := (AnyOrder.mem_ready hi).2.1
       obtain rfl : l4 = true := AnyOrder.dep (q := 0) hi rfl rfl rfl
       obtain rfl : l10 = true := AnyOrder.dep (q := 1) hi rfl rfl rfl
       clear hi
       simp only [sel_true, selv_true] at hK ⊢
       refine AnyOrder.wpOp_go rfl (by rfl) ?_
       go_wp2_with fail
       exact ⟨l0, l1, l2, l3, true, l5, l6, l7, l8, l9, true, true, rfl, rfl, HF⟩
     case last =>
      rintro L ac V ⟨l0, l1, l2, l3, l4, l5, l6, l7, l8, l9, l10, l11, rfl, rfl, HF⟩ hr
      have hall := AnyOrder.all_listed rfl (by kernel_rfl) hr
      clear hr
      obtain rfl : l0 = true := hall 0 (by decide)
      obtain rfl : l1 = true := hall 1 (by decide)
      obtain rfl : l2 = true := hall 2 (by decide)
      obtain rfl : l3 = true := hall 3 (by decide)
      obtain rfl : l4 = true := hall 4 (by decide)
      obtain rfl : l5 = true := hall 5 (by decide)
      obtain rfl : l6 = true := hall 6 (by decide)
      obtain rfl : l7 = true := hall 7 (by decide)
      obtain rfl : l8 = true := hall 8 (by decide)
      obtain rfl : l9 = true := hall 9 (by decide)
      obtain rfl : l10 = true := hall 10 (by decide)
      obtain rfl : l11 = true := hall 11 (by decide)
      clear hall
      simp only [sel_true, selv_true]
      have HHF := Aside0.mk (below_more (below_drew1 HB2.out) HF.out)
      clear HF
      generalize V = V9 at *
      have HB9 := Aside0.mk (below_more HB1.out (below_drew1 HHF.out))
      have HC9 := Aside0.mk (Kd.C_below HC.out HB9.out)
      have HKB9 := Aside0.mk (blk_drew (blk_keep HK1.out HHF.out))
      have HKC : Aside0 (k ≤ n ∧ n ≤ 400000 ∧ n ≤ c0) := ⟨⟨hk, HN4.out, HNC.out⟩⟩
      obtain ⟨m3, Hm3⟩ : ∃ m3, Aside0 (n - k = m3) := ⟨_, ⟨rfl⟩⟩
      obtain ⟨q3, Hq3⟩ : ∃ q3, Aside0 (c0 - k = q3) := ⟨_, ⟨rfl⟩⟩
      obtain ⟨Ac, HAc⟩ : ∃ Ac, Aside0 ((if c0 = k then (some ad) else Option.map (·.add (k * 2)) (some ad)) = Ac) := ⟨_, ⟨rfl⟩⟩
      have HCD : Aside0 (Kd.C k24 V9.drew Ac m3 (s.drop k)) := ⟨by rw [← HAc.out, ← Hm3.out]; exact C_from HC9.out Hn.out HKC.out.1 HKC.out.2.2⟩
      have HCF : Aside0 (∀ W, (Instr.sliceAt 41 (.slice (some ad) n c0) (some (.int .i64 (k : Int))) none none).run Tryz.prog W = .ok (.slice Ac m3 q3) W) := ⟨fun W => by rw [← HAc.out, ← Hm3.out, ← Hq3.out]; exact cut_fromD HKC.out.1 W⟩
      go_wp2_with fail
      refine AnyOrder.wp_region (by kernel_rfl) (rw6Inv V9.drew (some ad) Ac n c0 B k m3 q3 d s _ _ _ _ _ _ _ _ _ _ _ _ _ _ _ _ _ _ _ _ _ _ _ _ _ _ _ _ _ _ _) ⟨false, false, false, false, false, false, false, false, false, false, false, false, 0, undef, undef, undef, rfl, rfl, ⟨⟨fun h => (by cases h), fun h => (by cases h), fun h => (by cases h), Below.refl _ _, fun h _ => (by cases h), fun h _ => (by cases h), fun h _ => (by cases h), fun h => (by cases h)⟩⟩⟩ ?step ?last
      case step =>
       rintro L ac V i ⟨l0, l1, l2, l3, l4, l5, l6, l7, l8, l9, l10, l11, g, v1, v2, v3, rfl, rfl, HF⟩ hi K hK
       have h1 : i = 0 ∨ i = 1 ∨ i = 2 ∨ i = 3 ∨ i = 4 ∨ i = 5 ∨ i = 6 ∨ i = 7 ∨ i = 8 ∨ i = 9 ∨ i = 10 ∨ i = 11 := by
        have h1 := (AnyOrder.mem_ready hi).1
        clear hi hK
        change i < 12 at h1
        omega
       rcases h1 with rfl | rfl | rfl | rfl | rfl | rfl | rfl | rfl | rfl | rfl | rfl | rfl
       ·
        obtain rfl : l0 = false := (AnyOrder.mem_ready hi).2.1
        clear hi
        refine AnyOrder.wpOp_go rfl (by rfl) ?_
        go_wp2_with fail
        exact ⟨true, l1, l2, l3, l4, l5, l6, l7, l8, l9, l10, l11, g, v1, v2, v3, rfl, rfl, HF⟩
       ·
        obtain rfl : l1 = false := (AnyOrder.mem_ready hi).2.1
        clear hi
        refine AnyOrder.wpOp_go rfl (by rfl) ?_
        go_wp2_with fail
        exact ⟨l0, true, l2, l3, l4, l5, l6, l7, l8, l9, l10, l11, g, v1, v2, v3, rfl, rfl, HF⟩
       ·
        obtain rfl : l2 = false := (AnyOrder.mem_ready hi).2.1
        obtain rfl : l0 = true := AnyOrder.dep (q := 0) hi rfl rfl rfl
        obtain rfl : l1 = true := AnyOrder.dep (q := 1) hi rfl rfl rfl
        clear hi
        simp only [sel_true, selv_true] at hK ⊢
        refine AnyOrder.wpOp_go rfl (by rfl) ?_
        refine op_slice 41 (.tmp 24) none (some (.tmp 25)) rfl rfl rfl rfl (cut_toD HKC.out.1 HKC.out.2.2 V) ?_
        exact hK _ _ ⟨true, true, true, l3, l4, l5, l6, l7, l8, l9, l10, l11, g, v1, v2, v3, rfl, rfl, HF⟩
       ·
        obtain rfl : l3 = false := (AnyOrder.mem_ready hi).2.1
        obtain rfl : l2 = true := AnyOrder.dep (q := 0) hi rfl rfl rfl
        clear hi
        simp only [sel_true, selv_true] at hK ⊢
        obtain ⟨rfl, rfl, rfl⟩ := HF.out.no (.inl rfl)
        refine AnyOrder.wpOp_go rfl (by rfl) ?_
        refine op_append_dotN V9.drew.heap.size rfl (.const (.slice none 0 0)) (.tmp 26) rfl (.slice none 0 0) [] (s.take k) (some ad) k c0 rfl rfl (Kd.R_nil _ _ _ _ _) (C_to (Kd.C_below HC9.out HF.out.below) Hn.out HKC.out.1) HF.out.below.size (by have h1 := HKC.out.1; have h2 := HKC.out.2.1; simp; omega) ?_
        intro u1 V1 hr1 hg1 _
        have hb1 := grown_nil hg1
        exact hK _ _ ⟨l0, l1, true, true, l4, l5, false, l7, l8, l9, false, false, g, u1, v2, v3, rfl, rfl, ⟨⟨fun h => (by cases h), fun h => (by cases h), fun h => (by cases h), below_more HF.out.below hb1, fun _ _ => hr1, fun h _ => blk_keep (HF.out.bx h rfl) hb1, fun h _ => (by cases h), fun h => (by cases h)⟩⟩⟩
       ·
        obtain rfl : l4 = false := (AnyOrder.mem_ready hi).2.1
        clear hi
        have hkb := blk_keep HKB9.out HF.out.below
        have q0 : V.cell? ⟨B, 0, none⟩ = _ := (blk_cell hkb 0).trans rfl
        have q1 : V.cell? ⟨B, 1, none⟩ = _ := (blk_cell hkb 1).trans rfl
        refine AnyOrder.wpOp_go rfl (by rfl) ?_
        go_wp2_with fail
        exact ⟨l0, l1, l2, l3, true, l5, l6, l7, l8, l9, l10, l11, g, v1, v2, v3, rfl, rfl, HF⟩
       ·
        obtain rfl : l5 = false := (AnyOrder.mem_ready hi).2.1
        obtain rfl : l4 = true := AnyOrder.dep (q := 0) hi rfl rfl rfl
        clear hi
        simp only [sel_true, selv_true] at hK ⊢
        obtain ⟨rfl, rfl, rfl⟩ := HF.out.no (.inr rfl)
        have hb1 := (Gr.alloc V (dotC d)).below
        refine AnyOrder.wpOp_go rfl (by rfl) ?_
        go_wp2_with fail
        exact ⟨l0, l1, l2, l3, true, true, false, l7, l8, l9, false, false, V.heap.size, v1, v2, v3, rfl, rfl, ⟨⟨fun h => (by cases h), fun h => (by cases h), fun h => (by cases h), below_more HF.out.below hb1, fun h _ => RD.below' (HF.out.r1 h rfl) hb1, fun _ _ => blk_new _ _, fun h _ => (by cases h), fun h => (by cases h)⟩⟩⟩
       ·
        obtain rfl : l6 = false := (AnyOrder.mem_ready hi).2.1
        obtain rfl : l3 = true := AnyOrder.dep (q := 0) hi rfl rfl rfl
        obtain rfl : l5 = true := AnyOrder.dep (q := 1) hi rfl rfl rfl
        clear hi
        simp only [sel_true, selv_true] at hK ⊢
        obtain rfl : l10 = false := by cases l10 with | false => rfl | true => cases HF.out.ord10 rfl
        obtain rfl : l11 = false := by cases l11 with | false => rfl | true => cases HF.out.ord11 rfl
        (try simp only [sel_false, selv_false] at hK ⊢)
        have hr1 := HF.out.r1 rfl rfl
        refine AnyOrder.wpOp_go rfl (by rfl) ?_
        refine op_append_dotN V9.drew.heap.size rfl (.tmp 27) (.tmp 29) rfl v1 (s.take k) [d] (some ⟨g, 0, none⟩) 1 1 rfl rfl hr1 (dotC_C (HF.out.bx rfl rfl)) HF.out.below.size (by have h1 := HKC.out.1; have h2 := HKC.out.2.1; rw [List.length_take]; omega) ?_
        intro u2 V2 hr2 hg2 _
        exact hK _ _ ⟨l0, l1, l2, true, l4, true, true, l7, l8, l9, false, false, g, v1, u2, v3, rfl, rfl, ⟨⟨fun _ => ⟨rfl, rfl⟩, fun h => (by cases h), fun h => (by cases h), grown_belowD HF.out.below hr1 hg2, fun _ h => (by cases h), fun _ h => (by cases h), fun _ _ => hr2, fun h => (by cases h)⟩⟩⟩
       ·
        obtain rfl : l7 = false := (AnyOrder.mem_ready hi).2.1
        clear hi
        refine AnyOrder.wpOp_go rfl (by rfl) ?_
        go_wp2_with fail
        exact ⟨l0, l1, l2, l3, l4, l5, l6, true, l8, l9, l10, l11, g, v1, v2, v3, rfl, rfl, HF⟩
       ·
        obtain rfl : l8 = false := (AnyOrder.mem_ready hi).2.1
        clear hi
        refine AnyOrder.wpOp_go rfl (by rfl) ?_
        go_wp2_with fail
        exact ⟨l0, l1, l2, l3, l4, l5, l6, l7, true, l9, l10, l11, g, v1, v2, v3, rfl, rfl, HF⟩
       ·
        obtain rfl : l9 = false := (AnyOrder.mem_ready hi).2.1
        obtain rfl : l7 = true := AnyOrder.dep (q := 0) hi rfl rfl rfl
        obtain rfl : l8 = true := AnyOrder.dep (q := 1) hi rfl rfl rfl
        clear hi
        simp only [sel_true, selv_true] at hK ⊢
        refine AnyOrder.wpOp_go rfl (by rfl) ?_
        refine op_slice 41 (.tmp 31) (some (.tmp 32)) none rfl rfl rfl rfl (HCF.out V) ?_
        exact hK _ _ ⟨l0, l1, l2, l3, l4, l5, l6, true, true, true, l10, l11, g, v1, v2, v3, rfl, rfl, HF⟩
       ·
        obtain rfl : l10 = false := (AnyOrder.mem_ready hi).2.1
        obtain rfl : l6 = true := AnyOrder.dep (q := 0) hi rfl rfl rfl
        obtain rfl : l9 = true := AnyOrder.dep (q := 1) hi rfl rfl rfl
        clear hi
        simp only [sel_true, selv_true] at hK ⊢
        obtain rfl : l11 = false := by cases l11 with | false => rfl | true => cases HF.out.ord11 rfl
        (try simp only [sel_false, selv_false] at hK ⊢)
        have hr2 := HF.out.r2 rfl rfl
        refine AnyOrder.wpOp_go rfl (by rfl) ?_
        refine op_append_dotN V9.drew.heap.size rfl (.tmp 30) (.tmp 33) rfl v2 (s.take k ++ [d]) (s.drop k) Ac m3 q3 rfl rfl hr2 (Kd.C_below HCD.out HF.out.below) HF.out.below.size (by have h1 := HKC.out.1; have h2 := HKC.out.2.1; have h3 := Hm3.out; rw [List.length_append, List.length_take, List.length_singleton]; omega) ?_
        intro u3 V3 hr3 hg3 _
        exact hK _ _ ⟨l0, l1, l2, l3, l4, l5, true, l7, l8, true, true, false, g, v1, v2, u3, rfl, rfl, ⟨⟨HF.out.ord6, fun _ => rfl, fun h => (by cases h), grown_belowD HF.out.below hr2 hg3, fun _ h => (by cases h), fun _ h => (by cases h), fun _ h => (by cases h), fun _ => by rw [HCUT.out]; exact hr3⟩⟩⟩
       ·
        obtain rfl : l11 = false := (AnyOrder.mem_ready hi).2.1
        obtain rfl : l10 = true := AnyOrder.dep (q := 0) hi rfl rfl rfl
        obtain rfl : l0 = true := AnyOrder.dep (q := 2) hi rfl rfl rfl
        obtain rfl : l1 = true := AnyOrder.dep (q := 3) hi rfl rfl rfl
        obtain rfl : l2 = true := AnyOrder.dep (q := 4) hi rfl rfl rfl
        obtain rfl : l3 = true := AnyOrder.dep (q := 5) hi rfl rfl rfl
        obtain rfl : l4 = true := AnyOrder.dep (q := 6) hi rfl rfl rfl
        obtain rfl : l5 = true := AnyOrder.dep (q := 7) hi rfl rfl rfl
        obtain rfl : l6 = true := AnyOrder.dep (q := 8) hi rfl rfl rfl
        obtain rfl : l7 = true := AnyOrder.dep (q := 9) hi rfl rfl rfl
        obtain rfl : l8 = true := AnyOrder.dep (q := 10) hi rfl rfl rfl
        obtain rfl : l9 = true := AnyOrder.dep (q := 11) hi rfl rfl rfl
        clear hi
        simp only [sel_true, selv_true] at hK ⊢
        refine AnyOrder.wpOp_go rfl (by rfl) ?_
        go_wp2_with fail
        exact ⟨true, true, true, true, true, true, true, true, true, true, true, true, g, v1, v2, v3, rfl, rfl, ⟨⟨HF.out.ord6, HF.out.ord10, fun _ => rfl, HF.out.below, HF.out.r1, HF.out.bx, HF.out.r2, HF.out.r3⟩⟩⟩
      case last =>
       rintro L ac V ⟨l0, l1, l2, l3, l4, l5, l6, l7, l8, l9, l10, l11, g, v1, v2, v3, rfl, rfl, HF⟩ hr
       have hall := AnyOrder.all_listed rfl (by kernel_rfl) hr
       clear hr
       obtain rfl : l0 = true := hall 0 (by decide)
       obtain rfl : l1 = true := hall 1 (by decide)
       obtain rfl : l2 = true := hall 2 (by decide)
       obtain rfl : l3 = true := hall 3 (by decide)
       obtain rfl : l4 = true := hall 4 (by decide)
       obtain rfl : l5 = true := hall 5 (by decide)
       obtain rfl : l6 = true := hall 6 (by decide)
       obtain rfl : l7 = true := hall 7 (by decide)
       obtain rfl : l8 = true := hall 8 (by decide)
       obtain rfl : l9 = true := hall 9 (by decide)
       obtain rfl : l10 = true := hall 10 (by decide)
       obtain rfl : l11 = true := hall 11 (by decide)
       clear hall
       simp only [sel_true, selv_true]
       have HR3 := Aside0.mk (HF.out.r3 rfl)
       have HB3 := Aside0.mk (below_more HB9.out HF.out.below)
       obtain ⟨A3, c3, rfl⟩ := RD.slice HR3.out
       obtain ⟨n3, hn3⟩ : ∃ n3, (withD s d).length = n3 := ⟨_, rfl⟩
       rw [hn3] at HR3 ⊢
       clear HF hn3
       go_wp2
       go_ret
       exact ⟨_, rfl, Kd.R_lower HR3.out (Nat.le_trans HBS.out HB9.out.size), HB3.out⟩
   ·
    obtain rfl : k = n := by omega
    have HCUT : Aside0 (withD s d = s.take k ++ [d] ++ s.drop k) := ⟨by unfold withD; rw [if_neg HND.out, cutD_is (k := k) (by rw [Hn.out]; exact hk) HPRE.out (fun z hz => by rw [List.getElem?_eq_none (by rw [Hn.out]; exact hk)] at hz; cases hz)]; simp⟩
    go_wp2
    refine AnyOrder.wp_region (by kernel_rfl) (rw4eInv wr.drew A0 k c0 B k d d false false _ _ _ _ _ _ _ _ _ _ _ _ _ _ _ _ _ _ _ _ _ _ _ _ _ _ _ _ _ _ _ _) ⟨false, false, false, false, false, false, false, false, false, false, false, false, rfl, rfl, ⟨Below.refl _ _⟩⟩ ?step ?last
    case step =>
     rintro L ac V i ⟨l0, l1, l2, l3, l4, l5, l6, l7, l8, l9, l10, l11, rfl, rfl, HF⟩ hi K hK
     have h1 : i = 0 ∨ i = 1 ∨ i = 2 ∨ i = 3 ∨ i = 4 ∨ i = 5 ∨ i = 6 ∨ i = 7 ∨ i = 8 ∨ i = 9 ∨ i = 10 ∨ i = 11 := by
      have h1 := (AnyOrder.mem_ready hi).1
      clear hi hK
      change i < 12 at h1
      omega
     rcases h1 with rfl | rfl | rfl | rfl | rfl | rfl | rfl | rfl | rfl | rfl | rfl | rfl
     ·
      obtain rfl : l0 = false := (AnyOrder.mem_ready hi).2.1
      clear hi
      refine AnyOrder.wpOp_go rfl (by rfl) ?_
      go_wp2_with fail
      exact ⟨true, l1, l2, l3, l4, l5, l6, l7, l8, l9, l10, l11, rfl, rfl, HF⟩
     ·
      obtain rfl : l1 = false := (AnyOrder.mem_ready hi).2.1
      clear hi
      refine AnyOrder.wpOp_go rfl (by rfl) ?_
      go_wp2_with fail
      exact ⟨l0, true, l2, l3, l4, l5, l6, l7, l8, l9, l10, l11, rfl, rfl, HF⟩
     ·
      obtain rfl : l2 = false := (AnyOrder.mem_ready hi).2.1
      obtain rfl : l1 = true := AnyOrder.dep (q := 0) hi rfl rfl rfl
      clear hi
      simp only [sel_true, selv_true] at hK ⊢
      refine AnyOrder.wpOp_go rfl (by rfl) ?_
      go_wp2_with fail
      exact ⟨l0, true, true, l3, l4, l5, l6, l7, l8, l9, l10, l11, rfl, rfl, HF⟩
     ·
      obtain rfl : l3 = false := (AnyOrder.mem_ready hi).2.1
      obtain rfl : l0 = true := AnyOrder.dep (q := 0) hi rfl rfl rfl
      obtain rfl : l2 = true := AnyOrder.dep (q := 1) hi rfl rfl rfl
      clear hi
      simp only [sel_true, selv_true] at hK ⊢
      have hdec : decide ((k : Int) < (k : Int)) = false := decide_eq_false (by omega)
      refine AnyOrder.wpOp_go rfl (by rfl) ?_
      go_wp2_with fail
      exact ⟨true, l1, true, true, l4, l5, l6, l7, l8, l9, l10, l11, rfl, rfl, HF⟩
     ·
      obtain rfl : l4 = false := (AnyOrder.mem_ready hi).2.1
      obtain rfl : l3 = true := AnyOrder.dep (q := 0) hi rfl rfl rfl
      clear hi
      simp only [sel_true, selv_true] at hK ⊢
      refine AnyOrder.wpOp_go rfl (by rfl) ?_
      go_wp2_with fail
      exact ⟨l0, l1, l2, true, true, l5, l6, l7, l8, l9, l10, l11, rfl, rfl, HF⟩
     ·
      obtain rfl : l5 = false := (AnyOrder.mem_ready hi).2.1
      obtain rfl : l4 = true := AnyOrder.dep (q := 0) hi rfl rfl rfl
      clear hi
      simp only [sel_true, selv_true] at hK ⊢
      refine AnyOrder.wpOp_out rfl (by rfl) ?_
      exact hK _ _ ⟨l0, l1, l2, l3, true, true, l6, l7, l8, l9, l10, l11, rfl, rfl, HF⟩
     ·
      obtain rfl : l6 = false := (AnyOrder.mem_ready hi).2.1
      obtain rfl : l4 = true := AnyOrder.dep (q := 0) hi rfl rfl rfl
      clear hi
      simp only [sel_true, selv_true] at hK ⊢
      refine AnyOrder.wpOp_out rfl (by rfl) ?_
      exact hK _ _ ⟨l0, l1, l2, l3, true, l5, true, l7, l8, l9, l10, l11, rfl, rfl, HF⟩
     ·
      obtain rfl : l7 = false := (AnyOrder.mem_ready hi).2.1
      obtain rfl : l5 = true := AnyOrder.dep (q := 0) hi rfl rfl rfl
      obtain rfl : l6 = true := AnyOrder.dep (q := 1) hi rfl rfl rfl
      obtain rfl : l4 = true := AnyOrder.dep (q := 2) hi rfl rfl rfl
      clear hi
      simp only [sel_true, selv_true] at hK ⊢
      refine AnyOrder.wpOp_out rfl (by rfl) ?_
      exact hK _ _ ⟨l0, l1, l2, l3, true, true, true, true, l8, l9, l10, l11, rfl, rfl, HF⟩
     ·
      obtain rfl : l8 = false := (AnyOrder.mem_ready hi).2.1
      obtain rfl : l7 = true := AnyOrder.dep (q := 0) hi rfl rfl rfl
      obtain rfl : l4 = true := AnyOrder.dep (q := 1) hi rfl rfl rfl
      clear hi
      simp only [sel_true, selv_true] at hK ⊢
      refine AnyOrder.wpOp_out rfl (by rfl) ?_
      exact hK _ _ ⟨l0, l1, l2, l3, true, l5, l6, true, true, l9, l10, l11, rfl, rfl, HF⟩
     ·
      obtain rfl : l9 = false := (AnyOrder.mem_ready hi).2.1
      obtain rfl : l4 = true := AnyOrder.dep (q := 0) hi rfl rfl rfl
      clear hi
      simp only [sel_true, selv_true] at hK ⊢
      refine AnyOrder.wpOp_out rfl (by rfl) ?_
      exact hK _ _ ⟨l0, l1, l2, l3, true, l5, l6, l7, l8, true, l10, l11, rfl, rfl, HF⟩
     ·
      obtain rfl : l10 = false := (AnyOrder.mem_ready hi).2.1
      obtain rfl : l8 = true := AnyOrder.dep (q := 0) hi rfl rfl rfl
      obtain rfl : l9 = true := AnyOrder.dep (q := 1) hi rfl rfl rfl
      obtain rfl : l4 = true := AnyOrder.dep (q := 2) hi rfl rfl rfl
      clear hi
      simp only [sel_true, selv_true] at hK ⊢
      refine AnyOrder.wpOp_out rfl (by rfl) ?_
      exact hK _ _ ⟨l0, l1, l2, l3, true, l5, l6, l7, true, true, true, l11, rfl, rfl, HF⟩
     ·
      obtain rfl : l11 = false := (AnyOrder.mem_ready hi).2.1
      obtain rfl : l4 = true := AnyOrder.dep (q := 0) hi rfl rfl rfl
      obtain rfl : l10 = true := AnyOrder.dep (q := 1) hi rfl rfl rfl
      clear hi
      simp only [sel_true, selv_true] at hK ⊢
      refine AnyOrder.wpOp_go rfl (by rfl) ?_
      go_wp2_with fail
      exact ⟨l0, l1, l2, l3, true, l5, l6, l7, l8, l9, true, true, rfl, rfl, HF⟩
    case last =>
     rintro L ac V ⟨l0, l1, l2, l3, l4, l5, l6, l7, l8, l9, l10, l11, rfl, rfl, HF⟩ hr
     have hall := AnyOrder.all_listed rfl (by kernel_rfl) hr
     clear hr
     obtain rfl : l0 = true := hall 0 (by decide)
     obtain rfl : l1 = true := hall 1 (by decide)
     obtain rfl : l2 = true := hall 2 (by decide)
     obtain rfl : l3 = true := hall 3 (by decide)
     obtain rfl : l4 = true := hall 4 (by decide)
     obtain rfl : l5 = true := hall 5 (by decide)
     obtain rfl : l6 = true := hall 6 (by decide)
     obtain rfl : l7 = true := hall 7 (by decide)
     obtain rfl : l8 = true := hall 8 (by decide)
     obtain rfl : l9 = true := hall 9 (by decide)
     obtain rfl : l10 = true := hall 10 (by decide)
     obtain rfl : l11 = true := hall 11 (by decide)
     clear hall
     simp only [sel_true, selv_true]
     have HHF := Aside0.mk (below_more (below_drew1 HB2.out) HF.out)
     clear HF
     generalize V = V9 at *
     have HB9 := Aside0.mk (below_more HB1.out (below_drew1 HHF.out))
     have HC9 := Aside0.mk (Kd.C_below HC.out HB9.out)
     have HKB9 := Aside0.mk (blk_drew (blk_keep HK1.out HHF.out))
     have HKC : Aside0 (k ≤ k ∧ k ≤ 400000 ∧ k ≤ c0) := ⟨⟨hk, HN4.out, HNC.out⟩⟩
     obtain ⟨m3, Hm3⟩ : ∃ m3, Aside0 (k - k = m3) := ⟨_, ⟨rfl⟩⟩
     obtain ⟨q3, Hq3⟩ : ∃ q3, Aside0 (c0 - k = q3) := ⟨_, ⟨rfl⟩⟩
     obtain ⟨Ac, HAc⟩ : ∃ Ac, Aside0 ((if c0 = k then A0 else Option.map (·.add (k * 2)) A0) = Ac) := ⟨_, ⟨rfl⟩⟩
     have HCD : Aside0 (Kd.C k24 V9.drew Ac m3 (s.drop k)) := ⟨by rw [← HAc.out, ← Hm3.out]; exact C_from HC9.out Hn.out HKC.out.1 HKC.out.2.2⟩
     have HCF : Aside0 (∀ W, (Instr.sliceAt 41 (.slice A0 k c0) (some (.int .i64 (k : Int))) none none).run Tryz.prog W = .ok (.slice Ac m3 q3) W) := ⟨fun W => by rw [← HAc.out, ← Hm3.out, ← Hq3.out]; exact cut_fromD HKC.out.1 W⟩
     go_wp2_with fail
     refine AnyOrder.wp_region (by kernel_rfl) (rw6Inv V9.drew A0 Ac k c0 B k m3 q3 d s _ _ _ _ _ _ _ _ _ _ _ _ _ _ _ _ _ _ _ _ _ _ _ _ _ _ _ _ _ _ _) ⟨false, false, false, false, false, false, false, false, false, false, false, false, 0, undef, undef, undef, rfl, rfl, ⟨⟨fun h => (by cases h), fun h => (by cases h), fun h => (by cases h), Below.refl _ _, fun h _ => (by cases h), fun h _ => (by cases h), fun h _ => (by cases h), fun h => (by cases h)⟩⟩⟩ ?step ?last
     case step =>
      rintro L ac V i ⟨l0, l1, l2, l3, l4, l5, l6, l7, l8, l9, l10, l11, g, v1, v2, v3, rfl, rfl, HF⟩ hi K hK
      have h1 : i = 0 ∨ i = 1 ∨ i = 2 ∨ i = 3 ∨ i = 4 ∨ i = 5 ∨ i = 6 ∨ i = 7 ∨ i = 8 ∨ i = 9 ∨ i = 10 ∨ i = 11 := by
       have h1 := (AnyOrder.mem_ready hi).1
       clear hi hK
       change i < 12 at h1
       omega
      rcases h1 with rfl | rfl | rfl | rfl | rfl | rfl | rfl | rfl | rfl | rfl | rfl | rfl
      ·
       obtain rfl : l0 = false := (AnyOrder.mem_ready hi).2.1
       clear hi
       refine AnyOrder.wpOp_go rfl (by rfl) ?_
       go_wp2_with fail
       exact ⟨true, l1, l2, l3, l4, l5, l6, l7, l8, l9, l10, l11, g, v1, v2, v3, rfl, rfl, HF⟩
      ·
       obtain rfl : l1 = false := (AnyOrder.mem_ready hi).2.1
       clear hi
       refine AnyOrder.wpOp_go rfl (by rfl) ?_
       go_wp2_with fail
       exact ⟨l0, true, l2, l3, l4, l5, l6, l7, l8, l9, l10, l11, g, v1, v2, v3, rfl, rfl, HF⟩
      ·
       obtain rfl : l2 = false := (AnyOrder.mem_ready hi).2.1
       obtain rfl : l0 = true := AnyOrder.dep (q := 0) hi rfl rfl rfl
       obtain rfl : l1 = true := AnyOrder.dep (q := 1) hi rfl rfl rfl
       clear hi
       simp only [sel_true, selv_true] at hK ⊢
       refine AnyOrder.wpOp_go rfl (by rfl) ?_
       refine op_slice 41 (.tmp 24) none (some (.tmp 25)) rfl rfl rfl rfl (cut_toD HKC.out.1 HKC.out.2.2 V) ?_
       exact hK _ _ ⟨true, true, true, l3, l4, l5, l6, l7, l8, l9, l10, l11, g, v1, v2, v3, rfl, rfl, HF⟩
      ·
       obtain rfl : l3 = false := (AnyOrder.mem_ready hi).2.1
       obtain rfl : l2 = true := AnyOrder.dep (q := 0) hi rfl rfl rfl
       clear hi
       simp only [sel_true, selv_true] at hK ⊢
       obtain ⟨rfl, rfl, rfl⟩ := HF.out.no (.inl rfl)
       refine AnyOrder.wpOp_go rfl (by rfl) ?_
       refine op_append_dotN V9.drew.heap.size rfl (.const (.slice none 0 0)) (.tmp 26) rfl (.slice none 0 0) [] (s.take k) A0 k c0 rfl rfl (Kd.R_nil _ _ _ _ _) (C_to (Kd.C_below HC9.out HF.out.below) Hn.out HKC.out.1) HF.out.below.size (by have h1 := HKC.out.1; have h2 := HKC.out.2.1; simp; omega) ?_
       intro u1 V1 hr1 hg1 _
       have hb1 := grown_nil hg1
       exact hK _ _ ⟨l0, l1, true, true, l4, l5, false, l7, l8, l9, false, false, g, u1, v2, v3, rfl, rfl, ⟨⟨fun h => (by cases h), fun h => (by cases h), fun h => (by cases h), below_more HF.out.below hb1, fun _ _ => hr1, fun h _ => blk_keep (HF.out.bx h rfl) hb1, fun h _ => (by cases h), fun h => (by cases h)⟩⟩⟩
      ·
       obtain rfl : l4 = false := (AnyOrder.mem_ready hi).2.1
       clear hi
       have hkb := blk_keep HKB9.out HF.out.below
       have q0 : V.cell? ⟨B, 0, none⟩ = _ := (blk_cell hkb 0).trans rfl
       have q1 : V.cell? ⟨B, 1, none⟩ = _ := (blk_cell hkb 1).trans rfl
       refine AnyOrder.wpOp_go rfl (by rfl) ?_
       go_wp2_with fail
       exact ⟨l0, l1, l2, l3, true, l5, l6, l7, l8, l9, l10, l11, g, v1, v2, v3, rfl, rfl, HF⟩
      ·
       obtain rfl : l5 = false := (AnyOrder.mem_ready hi).2.1
       obtain rfl : l4 = true := AnyOrder.dep (q := 0) hi rfl rfl rfl
       clear hi
       simp only [sel_true, selv_true] at hK ⊢
       obtain ⟨rfl, rfl, rfl⟩ := HF.out.no (.inr rfl)
       have hb1 := (Gr.alloc V (dotC d)).below
       refine AnyOrder.wpOp_go rfl (by rfl) ?_
       go_wp2_with fail
       exact ⟨l0, l1, l2, l3, true, true, false, l7, l8, l9, false, false, V.heap.size, v1, v2, v3, rfl, rfl, ⟨⟨fun h => (by cases h), fun h => (by cases h), fun h => (by cases h), below_more HF.out.below hb1, fun h _ => RD.below' (HF.out.r1 h rfl) hb1, fun _ _ => blk_new _ _, fun h _ => (by cases h), fun h => (by cases h)⟩⟩⟩
      ·
       obtain rfl : l6 = false := (AnyOrder.mem_ready hi).2.1
       obtain rfl : l3 = true := AnyOrder.dep (q := 0) hi rfl rfl rfl
       obtain rfl : l5 = true := AnyOrder.dep (q := 1) hi rfl rfl rfl
       clear hi
       simp only [sel_true, selv_true] at hK ⊢
       obtain rfl : l10 = false := by cases l10 with | false => rfl | true => cases HF.out.ord10 rfl
       obtain rfl : l11 = false := by cases l11 with | false => rfl | true => cases HF.out.ord11 rfl
       (try simp only [sel_false, selv_false] at hK ⊢)
       have hr1 := HF.out.r1 rfl rfl
       refine AnyOrder.wpOp_go rfl (by rfl) ?_
       refine op_append_dotN V9.drew.heap.size rfl (.tmp 27) (.tmp 29) rfl v1 (s.take k) [d] (some ⟨g, 0, none⟩) 1 1 rfl rfl hr1 (dotC_C (HF.out.bx rfl rfl)) HF.out.below.size (by have h1 := HKC.out.1; have h2 := HKC.out.2.1; rw [List.length_take]; omega) ?_
       intro u2 V2 hr2 hg2 _
       exact hK _ _ ⟨l0, l1, l2, true, l4, true, true, l7, l8, l9, false, false, g, v1, u2, v3, rfl, rfl, ⟨⟨fun _ => ⟨rfl, rfl⟩, fun h => (by cases h), fun h => (by cases h), grown_belowD HF.out.below hr1 hg2, fun _ h => (by cases h), fun _ h => (by cases h), fun _ _ => hr2, fun h => (by cases h)⟩⟩⟩
      ·
       obtain rfl : l7 = false := (AnyOrder.mem_ready hi).2.1
       clear hi
       refine AnyOrder.wpOp_go rfl (by rfl) ?_
       go_wp2_with fail
       exact ⟨l0, l1, l2, l3, l4, l5, l6, true, l8, l9, l10, l11, g, v1, v2, v3, rfl, rfl, HF⟩
      ·
       obtain rfl : l8 = false := (AnyOrder.mem_ready hi).2.1
       clear hi
       refine AnyOrder.wpOp_go rfl (by rfl) ?_
       go_wp2_with fail
       exact ⟨l0, l1, l2, l3, l4, l5, l6, l7, true, l9, l10, l11, g, v1, v2, v3, rfl, rfl, HF⟩
      ·
       obtain rfl : l9 = false := (AnyOrder.mem_ready hi).2.1
       obtain rfl : l7 = true := AnyOrder.dep (q := 0) hi rfl rfl rfl
       obtain rfl : l8 = true := AnyOrder.dep (q := 1) hi rfl rfl rfl
       clear hi
       simp only [sel_true, selv_true] at hK ⊢
       refine AnyOrder.wpOp_go rfl (by rfl) ?_
       refine op_slice 41 (.tmp 31) (some (.tmp 32)) none rfl rfl rfl rfl (HCF.out V) ?_
       exact hK _ _ ⟨l0, l1, l2, l3, l4, l5, l6, true, true, true, l10, l11, g, v1, v2, v3, rfl, rfl, HF⟩
      ·
       obtain rfl : l10 = false := (AnyOrder.mem_ready hi).2.1
       obtain rfl : l6 = true := AnyOrder.dep (q := 0) hi rfl rfl rfl
       obtain rfl : l9 = true := AnyOrder.dep (q := 1) hi rfl rfl rfl
       clear hi
       simp only [sel_true, selv_true] at hK ⊢
       obtain rfl : l11 = false := by cases l11 with | false => rfl | true => cases HF.out.ord11 rfl
       (try simp only [sel_false, selv_false] at hK ⊢)
       have hr2 := HF.out.r2 rfl rfl
       refine AnyOrder.wpOp_go rfl (by rfl) ?_
       refine op_append_dotN V9.drew.heap.size rfl (.tmp 30) (.tmp 33) rfl v2 (s.take k ++ [d]) (s.drop k) Ac m3 q3 rfl rfl hr2 (Kd.C_below HCD.out HF.out.below) HF.out.below.size (by have h1 := HKC.out.1; have h2 := HKC.out.2.1; have h3 := Hm3.out; rw [List.length_append, List.length_take, List.length_singleton]; omega) ?_
       intro u3 V3 hr3 hg3 _
       exact hK _ _ ⟨l0, l1, l2, l3, l4, l5, true, l7, l8, true, true, false, g, v1, v2, u3, rfl, rfl, ⟨⟨HF.out.ord6, fun _ => rfl, fun h => (by cases h), grown_belowD HF.out.below hr2 hg3, fun _ h => (by cases h), fun _ h => (by cases h), fun _ h => (by cases h), fun _ => by rw [HCUT.out]; exact hr3⟩⟩⟩
      ·
       obtain rfl : l11 = false := (AnyOrder.mem_ready hi).2.1
       obtain rfl : l10 = true := AnyOrder.dep (q := 0) hi rfl rfl rfl
       obtain rfl : l0 = true := AnyOrder.dep (q := 2) hi rfl rfl rfl
       obtain rfl : l1 = true := AnyOrder.dep (q := 3) hi rfl rfl rfl
       obtain rfl : l2 = true := AnyOrder.dep (q := 4) hi rfl rfl rfl
       obtain rfl : l3 = true := AnyOrder.dep (q := 5) hi rfl rfl rfl
       obtain rfl : l4 = true := AnyOrder.dep (q := 6) hi rfl rfl rfl
       obtain rfl : l5 = true := AnyOrder.dep (q := 7) hi rfl rfl rfl
       obtain rfl : l6 = true := AnyOrder.dep (q := 8) hi rfl rfl rfl
       obtain rfl : l7 = true := AnyOrder.dep (q := 9) hi rfl rfl rfl
       obtain rfl : l8 = true := AnyOrder.dep (q := 10) hi rfl rfl rfl
       obtain rfl : l9 = true := AnyOrder.dep (q := 11) hi rfl rfl rfl
       clear hi
       simp only [sel_true, selv_true] at hK ⊢
       refine AnyOrder.wpOp_go rfl (by rfl) ?_
       go_wp2_with fail
       exact ⟨true, true, true, true, true, true, true, true, true, true, true, true, g, v1, v2, v3, rfl, rfl, ⟨⟨HF.out.ord6, HF.out.ord10, fun _ => rfl, HF.out.below, HF.out.r1, HF.out.bx, HF.out.r2, HF.out.r3⟩⟩⟩
     case last =>
      rintro L ac V ⟨l0, l1, l2, l3, l4, l5, l6, l7, l8, l9, l10, l11, g, v1, v2, v3, rfl, rfl, HF⟩ hr
      have hall := AnyOrder.all_listed rfl (by kernel_rfl) hr
      clear hr
      obtain rfl : l0 = true := hall 0 (by decide)
      obtain rfl : l1 = true := hall 1 (by decide)
      obtain rfl : l2 = true := hall 2 (by decide)
      obtain rfl : l3 = true := hall 3 (by decide)
      obtain rfl : l4 = true := hall 4 (by decide)
      obtain rfl : l5 = true := hall 5 (by decide)
      obtain rfl : l6 = true := hall 6 (by decide)
      obtain rfl : l7 = true := hall 7 (by decide)
      obtain rfl : l8 = true := hall 8 (by decide)
      obtain rfl : l9 = true := hall 9 (by decide)
      obtain rfl : l10 = true := hall 10 (by decide)
      obtain rfl : l11 = true := hall 11 (by decide)
      clear hall
      simp only [sel_true, selv_true]
      have HR3 := Aside0.mk (HF.out.r3 rfl)
      have HB3 := Aside0.mk (below_more HB9.out HF.out.below)
      obtain ⟨A3, c3, rfl⟩ := RD.slice HR3.out
      obtain ⟨n3, hn3⟩ : ∃ n3, (withD s d).length = n3 := ⟨_, rfl⟩
      rw [hn3] at HR3 ⊢
      clear HF hn3
      go_wp2
      go_ret
      exact ⟨_, rfl, Kd.R_lower HR3.out (Nat.le_trans HBS.out HB9.out.size), HB3.out⟩
end Go.Proofs.YtjlpaagnajmogaaGreat.PWalk
end
section
namespace Go.Proofs.YtjlpaagnajmogaaGreat.PWalk
open Go.RowKit Go.Proofs.YtjlpaagnajmogaaGreatW.PrintWords Go.Proofs.YtjlpaagnajmogaaGreatW.PrintLast Go.Proofs.YtjlpaagnajmogaaGreatW.PrintMore
set_option linter.unusedVariables false
set_option linter.unusedSimpArgs false
open Go.Shelf
attribute [local go_sem] Oper.semAt_some
def redpencilref11_Lost.f (l0 : List Node) : Option (List Dot) := if l0.length ≤ 400000 ∧ storeOk l0 = true then some (lostOf l0) else none
def lostTo (l : List Node) (i : Nat) : List Dot := ((l.take i).filter fun y => (pathOf l y.f0).isNone).map (·.f0)
theorem lostTo_le (l : List Node) (i : Nat) : (lostTo l i).length ≤ l.length := by
 unfold lostTo
 rw [List.length_map]
 exact Nat.le_trans (List.length_filter_le _ _) (List.length_take_le' _ _)
set_option maxHeartbeats 4000000 in
set_option maxRecDepth 100000 in
theorem redpencilref11_Lost.calls (A0 : Option Addr) (c0 : Nat) (l0 : List Node) (r : List Dot) (w : World) (hr0 : Kd.C k35 w A0 l0.length l0) (hc0 : l0.length ≤ c0) (h : redpencilref11_Lost.f l0 = some r) :
  Calls Tryz.prog 27 #[.slice A0 l0.length c0] w fun e w' => ∃ v0_ : Value, e = .returned v0_ ∧ Kd.R k24 24 w' w.heap.size (fun _ => True) v0_ r ∧ Below w.heap.size w w' := by
 unfold redpencilref11_Lost.f at h
 by_cases hl : l0.length ≤ 400000 ∧ storeOk l0 = true
 rotate_left
 ·
  rw [if_neg hl] at h; cases h
 rw [if_pos hl] at h
 obtain rfl := Option.some.inj h
 have HS := Aside0.mk (store_of hl.2)
 have HR := Aside0.mk hr0
 have HC := Aside0.mk hc0
 have HL := Aside0.mk hl.1
 clear h hr0 hc0
 obtain ⟨n, Hn⟩ : ∃ n, Aside0 (l0.length = n) := ⟨_, ⟨rfl⟩⟩
 have hn4 : n ≤ 400000 := by rw [← Hn.out]; exact hl.1
 rw [Hn.out]
 clear hl
 go_enter Tryz.func27, Tryz.ntmps27
 go_wp2
 go_loopw [3, 4] (fun o i wr => ∃ (k : Nat) (Ao : Option Addr) (no co : Nat), k ≤ n ∧ i = .int .i64 k ∧ o = .slice Ao no co ∧ Aside0 (RD wr w.heap.size (.slice Ao no co) (lostTo l0 k)) ∧ Aside0 (Below w.heap.size w wr)) (fun _ i _ => n - (intOf i).toNat)
 case atStart => exact ⟨0, none, 0, 0, Nat.zero_le _, rfl, rfl, ⟨Kd.R_nil _ _ _ _ _⟩, ⟨Below.refl _ _⟩⟩
 case round =>
  obtain ⟨k, Ao, no, co, hk, rfl, rfl, HO, HB⟩ := hrel
  by_cases hlt : k < n
  ·
   have hltb : decide ((k : Int) < (n : Int)) = true := decide_eq_true (by omega)
   obtain ⟨x, Hx⟩ : ∃ x, Aside0 (l0[k]? = some x) := ⟨_, ⟨List.getElem?_eq_getElem (by rw [Hn.out]; exact hlt)⟩⟩
   obtain ⟨ad, e, g0, g1, g2, g3, g4, g5⟩ := node_at HR.out HB.out k x Hx.out
   subst e
   have HST := Aside0.mk (lost_take_succ HS.out Hx.out)
   have HST : Aside0 (lostTo l0 (k + 1) = if (pathOf l0 x.f0).isNone = true then withD (lostTo l0 k) x.f0 else lostTo l0 k) := ⟨HST.out⟩
   have hpi := refPath_is l0 (by have := HL.out; omega) x.f0 3000000 (by have := HL.out; omega)
   obtain ⟨q, Hq⟩ : ∃ q : List Dot × Bool, Aside0 (redpencilref11_Path.f 3000000 l0 x.f0.f0 x.f0.f1 = some q) := ⟨_, ⟨hpi⟩⟩
   have HPI := Aside0.mk hpi
   clear hpi
   have hpa := redpencilref11_Path.calls 3000000 (some ad) c0 l0 x.f0.f0 x.f0.f1 q.1 q.2 wr (Kd.C_below (by rw [Hn.out]; have := HR.out; rwa [Hn.out] at this) HB.out) HC.out Hq.out
   rw [Hn.out] at hpa
   have HPA := Aside0.mk hpa
   clear hpa
   go_wp2_with fail
   refine HPA.out.mono ?_
   rintro e w2 ⟨vp, rfl, hvp, hb⟩
   obtain ⟨Ap, cp, rfl⟩ := RD.slice hvp
   obtain ⟨np, hnp⟩ : ∃ np, q.1.length = np := ⟨_, rfl⟩
   rw [hnp]
   have HB2 := Aside0.mk (below_more HB.out hb)
   have HO2 := Aside0.mk (RD.below' HO.out hb)
   clear hvp hb hnp g0 g1 g2 g3 g4 g5
   obtain ⟨ad', e, g0, g1, g2, g3, g4, g5⟩ := node_at HR.out HB2.out k x Hx.out
   cases e
   cases hp : pathOf l0 x.f0 with
   | some p =>
    have hq2 : q.2 = true := by have h := HPI.out; rw [hp, Hq.out] at h; rw [Option.some.inj h]
    rw [hq2]
    have HST : Aside0 (lostTo l0 (k + 1) = lostTo l0 k) := ⟨by rw [HST.out, hp]; rfl⟩
    clear hp hq2
    go_wp2
    go_roundw
    case rel => exact ⟨k + 1, Ao, no, co, by omega, by go_num, rfl, ⟨by rw [HST.out]; exact HO2.out⟩, HB2⟩
    case measure => simp [intOf] <;> omega
   | none =>
    have hq2 : q.2 = false := by have h := HPI.out; rw [hp, Hq.out] at h; rw [Option.some.inj h]
    rw [hq2]
    have HST : Aside0 (lostTo l0 (k + 1) = withD (lostTo l0 k) x.f0) := ⟨by rw [HST.out, hp]; rfl⟩
    have HW := Aside0.mk (refWith_call w.heap.size Ao no co (lostTo l0 k) x.f0 w2 HO2.out HB2.out.size (by have h1 := (RD.C HO2.out).1; have h2 := lostTo_le l0 k; have h3 := HL.out; omega))
    clear hp hq2
    go_wp2_with fail
    refine HW.out.mono ?_
    rintro e w3 ⟨v3, rfl, hr3, hb⟩
    obtain ⟨A3, c3, rfl⟩ := RD.slice hr3
    obtain ⟨n3, hn3⟩ : ∃ n3, (withD (lostTo l0 k) x.f0).length = n3 := ⟨_, rfl⟩
    rw [hn3] at hr3 ⊢
    have HR3 := Aside0.mk hr3
    have HB3 := Aside0.mk (below_more HB2.out hb)
    clear hr3 hb hn3 g0 g1 g2 g3 g4 g5
    go_wp2
    go_roundw
    case rel => exact ⟨k + 1, A3, n3, c3, by omega, by go_num, rfl, ⟨by rw [HST.out]; exact HR3.out⟩, HB3⟩
    case measure => simp [intOf] <;> omega
  ·
   obtain rfl : k = n := by omega
   have hltb : decide ((k : Int) < (k : Int)) = false := decide_eq_false (by omega)
   have hall : lostTo l0 k = lostOf l0 := by unfold lostTo lostOf; rw [List.take_of_length_le (Nat.le_of_eq Hn.out)]
   rw [hall] at HO
   go_wp2
   go_ret
   exact ⟨_, rfl, HO.out, HB.out⟩
end Go.Proofs.YtjlpaagnajmogaaGreat.PWalk
end
