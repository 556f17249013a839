/-
  The theorem of stage 13: the law FormHolds returns true for every list of nodes, where the program's words of flaws are laid as its text lays them. Part 4 of 9.
-/
import Derived.Test.YtdheokololpnbaaGreatDoorKC
import Derived.Lib.Overlaps
import Derived.Lib.AppendZerosOnto
import Derived.Laws.Externs
section
namespace Go.Proofs.YtdheokololpnbaaGreatDoor.PWalk
open Go.RowKit Go.Proofs.YtdheokololpnbaaGreatDoorW.PrintWords Go.Proofs.YtdheokololpnbaaGreatDoorW.PrintLast Go.Proofs.YtdheokololpnbaaGreatDoorW.PrintMore
set_option linter.unusedVariables false
set_option linter.unusedSimpArgs false
open Go.Shelf
attribute [local go_sem] Oper.semAt_some
def firstI (a b : Node) : Int := if nodeLt a b = true then -1 else if nodeLt b a = true then 1 else 0
set_option maxHeartbeats 1000000 in
set_option maxRecDepth 100000 in
theorem first_call (a b : Node) (w : World) : Calls Tryz.prog 83 #[vNode a, vNode b] w fun e w' => e = .returned (.int .i64 (firstI a b)) ∧ Gr w w' := by
 have hA : ((w.alloc (.cells #[.int .i64 a.f0.f0, .int .i64 a.f0.f1, .int .i64 a.f1.f0, .int .i64 a.f1.f1, .int .i64 a.f2, .int .i32 a.f3] 35 (0, 0))).alloc (.cells #[.int .i64 b.f0.f0, .int .i64 b.f0.f1, .int .i64 b.f1.f0, .int .i64 b.f1.f1, .int .i64 b.f2, .int .i32 b.f3] 35 (0, 0))).heap[w.heap.size]? = some (.cells #[.int .i64 a.f0.f0, .int .i64 a.f0.f1, .int .i64 a.f1.f0, .int .i64 a.f1.f1, .int .i64 a.f2, .int .i32 a.f3] 35 (0, 0)) := blk_alloc (blk_new _ _) _
 have hB : ((w.alloc (.cells #[.int .i64 a.f0.f0, .int .i64 a.f0.f1, .int .i64 a.f1.f0, .int .i64 a.f1.f1, .int .i64 a.f2, .int .i32 a.f3] 35 (0, 0))).alloc (.cells #[.int .i64 b.f0.f0, .int .i64 b.f0.f1, .int .i64 b.f1.f0, .int .i64 b.f1.f1, .int .i64 b.f2, .int .i32 b.f3] 35 (0, 0))).heap[w.heap.size + 1]? = some (.cells #[.int .i64 b.f0.f0, .int .i64 b.f0.f1, .int .i64 b.f1.f0, .int .i64 b.f1.f1, .int .i64 b.f2, .int .i32 b.f3] 35 (0, 0)) := by have := blk_new (w.alloc (.cells #[.int .i64 a.f0.f0, .int .i64 a.f0.f1, .int .i64 a.f1.f0, .int .i64 a.f1.f1, .int .i64 a.f2, .int .i32 a.f3] 35 (0, 0))) (.cells #[.int .i64 b.f0.f0, .int .i64 b.f0.f1, .int .i64 b.f1.f0, .int .i64 b.f1.f1, .int .i64 b.f2, .int .i32 b.f3] 35 (0, 0)); rwa [World.size_alloc] at this
 have HA := Aside0.mk hA
 have HB := Aside0.mk hB
 have HG := Aside0.mk ((Gr.alloc w (.cells #[.int .i64 a.f0.f0, .int .i64 a.f0.f1, .int .i64 a.f1.f0, .int .i64 a.f1.f1, .int .i64 a.f2, .int .i32 a.f3] 35 (0, 0))).trans (Gr.alloc _ (.cells #[.int .i64 b.f0.f0, .int .i64 b.f0.f1, .int .i64 b.f1.f0, .int .i64 b.f1.f1, .int .i64 b.f2, .int .i32 b.f3] 35 (0, 0))))
 clear hA hB
 obtain ⟨r, HR⟩ : ∃ r, Aside0 (firstI a b = r) := ⟨_, ⟨rfl⟩⟩
 rw [HR.out]
 go_enter Tryz.func83, Tryz.ntmps83
 go_wp2_with fail
 generalize (w.alloc (.cells #[.int .i64 a.f0.f0, .int .i64 a.f0.f1, .int .i64 a.f1.f0, .int .i64 a.f1.f1, .int .i64 a.f2, .int .i32 a.f3] 35 (0, 0))).alloc (.cells #[.int .i64 b.f0.f0, .int .i64 b.f0.f1, .int .i64 b.f1.f0, .int .i64 b.f1.f1, .int .i64 b.f2, .int .i32 b.f3] 35 (0, 0)) = W0 at HA HB HG ⊢
 refine (nodeLt_call a b W0).mono ?_
 rintro e W1 ⟨rfl, hb⟩
 have HA := Aside0.mk (hb.blk HA.out)
 have HB := Aside0.mk (hb.blk HB.out)
 have HG := Aside0.mk (HG.out.trans hb)
 clear hb
 cases h1 : nodeLt a b with
 | true =>
  have H1 := Aside0.mk h1
  clear h1
  go_wp2_with fail
  go_ret
  exact ⟨by rw [← HR.out, firstI, if_pos H1.out]; rfl, HG.out⟩
 | false =>
  have H1 := Aside0.mk h1
  clear h1
  have cA0 : W1.cell? ⟨w.heap.size, 0, none⟩ = _ := (blk_cell HA.out 0).trans rfl
  have cA1 : W1.cell? ⟨w.heap.size, 1, none⟩ = _ := (blk_cell HA.out 1).trans rfl
  have cA2 : W1.cell? ⟨w.heap.size, 2, none⟩ = _ := (blk_cell HA.out 2).trans rfl
  have cA3 : W1.cell? ⟨w.heap.size, 3, none⟩ = _ := (blk_cell HA.out 3).trans rfl
  have cA4 : W1.cell? ⟨w.heap.size, 4, none⟩ = _ := (blk_cell HA.out 4).trans rfl
  have cA5 : W1.cell? ⟨w.heap.size, 5, none⟩ = _ := (blk_cell HA.out 5).trans rfl
  have cB0 : W1.cell? ⟨w.heap.size + 1, 0, none⟩ = _ := (blk_cell HB.out 0).trans rfl
  have cB1 : W1.cell? ⟨w.heap.size + 1, 1, none⟩ = _ := (blk_cell HB.out 1).trans rfl
  have cB2 : W1.cell? ⟨w.heap.size + 1, 2, none⟩ = _ := (blk_cell HB.out 2).trans rfl
  have cB3 : W1.cell? ⟨w.heap.size + 1, 3, none⟩ = _ := (blk_cell HB.out 3).trans rfl
  have cB4 : W1.cell? ⟨w.heap.size + 1, 4, none⟩ = _ := (blk_cell HB.out 4).trans rfl
  have cB5 : W1.cell? ⟨w.heap.size + 1, 5, none⟩ = _ := (blk_cell HB.out 5).trans rfl
  go_wp2_with fail
  refine (nodeLt_call b a W1).mono ?_
  rintro e W2 ⟨rfl, hb⟩
  have HG := Aside0.mk (HG.out.trans hb)
  clear hb
  cases h2 : nodeLt b a with
  | true =>
   have H2 := Aside0.mk h2
   clear h2
   go_wp2_with fail
   go_ret
   exact ⟨by rw [← HR.out, firstI, if_neg (by rw [H1.out]; decide), if_pos H2.out]; rfl, HG.out⟩
  | false =>
   have H2 := Aside0.mk h2
   clear h2
   go_wp2_with fail
   go_ret
   exact ⟨by rw [← HR.out, firstI, if_neg (by rw [H1.out]; decide), if_neg (by rw [H2.out]; decide)]; rfl, HG.out⟩
abbrev cmpV : Value := .func (.func 40) #[] #[]
abbrev vEnt (k : Dot) (v : Value) : Value := .agg #[.int .i64 k.f0, .int .i64 k.f1, v]
structure Find1 (W0 : World) (bm mp A B : Nat) (k : Dot) (v : Value) (d : Dot) (sl : Value) (V : World) : Prop where
 gr : Gr W0 V
 box : W0.heap[bm]? = some (.cells #[.pointer (some ⟨mp, 0, none⟩)] 96 (0, 0))
 map : W0.heap[mp]? = some (.cells #[cmpV, sl] 142 (0, 0))
 ent : W0.heap[A]? = some (.cells #[.int .i64 k.f0, .int .i64 k.f1, v] 145 (0, 0))
 key : W0.heap[B]? = some (.cells #[.int .i64 d.f0, .int .i64 d.f1] 33 (0, 0))
def find1Inv (W0 : World) (bm mp A B : Nat) (k : Dot) (v : Value) (d : Dot) (sl : Value) (L : Array Bool) (ac : Act) (V : World) : Prop := ∃ (l0 l1 l2 l3 l4 l5 l6 l7 l8 : Bool), L = #[l0, l1, l2, l3, l4, l5, l6, l7, l8] ∧ ac = { tmps := #[vEnt k v, vDot d, .pointer (some ⟨bm, 0, none⟩), .pointer (some ⟨A, 0, none⟩), .pointer (some ⟨B, 0, none⟩), selv l8 (.int .i64 (dotCmp k d)) (.int .i64 0), sel l0 (.pointer (some ⟨mp, 0, none⟩)), sel l1 (.pointer (some ⟨mp, 0, none⟩)), sel l2 (.pointer (some ⟨mp, 0, none⟩)), sel l3 (cmpV), sel l4 (.pointer (some ⟨A, 0, none⟩)), sel l5 (vDot k), sel l6 (vDot d), sel l7 (.int .i64 (dotCmp k d))], defers := [] } ∧ Aside0 (Find1 W0 bm mp A B k v d sl V)
set_option maxHeartbeats 1000000 in
set_option maxRecDepth 100000 in
theorem find1_call (k : Dot) (v : Value) (hv : v.oneCell' = true) (d : Dot) (bm mp : Nat) (sl : Value) (w : World) (hbm : w.heap[bm]? = some (.cells #[.pointer (some ⟨mp, 0, none⟩)] 96 (0, 0))) (hmp : w.heap[mp]? = some (.cells #[cmpV, sl] 142 (0, 0))) :
  Calls Tryz.prog 110 #[vEnt k v, vDot d, .pointer (some ⟨bm, 0, none⟩)] w fun e w' => e = .returned (.int .i64 (dotCmp k d)) ∧ Gr w w' := by
 replace hbm := blk_alloc (blk_alloc hbm (.cells #[.int .i64 k.f0, .int .i64 k.f1, v] 145 (0, 0))) (.cells #[.int .i64 d.f0, .int .i64 d.f1] 33 (0, 0))
 replace hmp := blk_alloc (blk_alloc hmp (.cells #[.int .i64 k.f0, .int .i64 k.f1, v] 145 (0, 0))) (.cells #[.int .i64 d.f0, .int .i64 d.f1] 33 (0, 0))
 have hA : ((w.alloc (.cells #[.int .i64 k.f0, .int .i64 k.f1, v] 145 (0, 0))).alloc (.cells #[.int .i64 d.f0, .int .i64 d.f1] 33 (0, 0))).heap[w.heap.size]? = some (.cells #[.int .i64 k.f0, .int .i64 k.f1, v] 145 (0, 0)) := blk_alloc (blk_new _ _) _
 have hB : ((w.alloc (.cells #[.int .i64 k.f0, .int .i64 k.f1, v] 145 (0, 0))).alloc (.cells #[.int .i64 d.f0, .int .i64 d.f1] 33 (0, 0))).heap[w.heap.size + 1]? = some (.cells #[.int .i64 d.f0, .int .i64 d.f1] 33 (0, 0)) := by have := blk_new (w.alloc (.cells #[.int .i64 k.f0, .int .i64 k.f1, v] 145 (0, 0))) (.cells #[.int .i64 d.f0, .int .i64 d.f1] 33 (0, 0)); rwa [World.size_alloc] at this
 have H1 := Aside0.mk hbm
 have H2 := Aside0.mk hmp
 have H3 := Aside0.mk hA
 have H4 := Aside0.mk hB
 clear hbm hmp hA hB
 go_enter Tryz.func110, Tryz.ntmps110
 go_wp2_with fail
 have hbm := H1.out
 have hmp := H2.out
 have hA := H3.out
 have hB := H4.out
 refine AnyOrder.wp_region (by kernel_rfl) (find1Inv ((w.alloc (.cells #[.int .i64 k.f0, .int .i64 k.f1, v] 145 (0, 0))).alloc (.cells #[.int .i64 d.f0, .int .i64 d.f1] 33 (0, 0))) bm mp w.heap.size (w.heap.size + 1) k v d sl) ?start ?step ?last
 case start => exact ⟨false, false, false, false, false, false, false, false, false, rfl, rfl, ⟨⟨Gr.drew _, hbm, hmp, hA, hB⟩⟩⟩
 case step =>
  rintro L ac V i ⟨l0, l1, l2, l3, l4, l5, l6, l7, l8, rfl, rfl, HF⟩ hi K hK
  have h1 : i = 0 ∨ i = 1 ∨ i = 2 ∨ i = 3 ∨ i = 4 ∨ i = 5 ∨ i = 6 ∨ i = 7 ∨ i = 8 := by
   have h1 := (AnyOrder.mem_ready hi).1
   clear hi hK
   change i < 9 at h1
   omega
  rcases h1 with rfl | rfl | rfl | rfl | rfl | rfl | rfl | rfl | rfl
  ·
   obtain rfl : l0 = false := (AnyOrder.mem_ready hi).2.1
   clear hi
   have cb0 : V.cell? ⟨bm, 0, none⟩ = _ := (blk_cell (HF.out.gr.blk HF.out.box) 0).trans rfl
   refine AnyOrder.wpOp_go rfl (by rfl) ?_
   go_wp2_with fail
   exact ⟨true, l1, l2, l3, l4, l5, l6, l7, l8, rfl, rfl, HF⟩
  ·
   obtain rfl : l1 = false := (AnyOrder.mem_ready hi).2.1
   obtain rfl : l0 = true := AnyOrder.dep (q := 0) hi rfl rfl rfl
   clear hi
   simp only [sel_true, selv_true] at hK ⊢
   refine AnyOrder.wpOp_go rfl (by rfl) ?_
   go_wp2_with fail
   exact ⟨true, true, l2, l3, l4, l5, l6, l7, l8, rfl, rfl, HF⟩
  ·
   obtain rfl : l2 = false := (AnyOrder.mem_ready hi).2.1
   obtain rfl : l1 = true := AnyOrder.dep (q := 0) hi rfl rfl rfl
   clear hi
   simp only [sel_true, selv_true] at hK ⊢
   refine AnyOrder.wpOp_go rfl (by rfl) ?_
   go_wp2_with fail
   exact ⟨l0, true, true, l3, l4, l5, l6, l7, l8, rfl, rfl, HF⟩
  ·
   obtain rfl : l3 = false := (AnyOrder.mem_ready hi).2.1
   obtain rfl : l2 = true := AnyOrder.dep (q := 0) hi rfl rfl rfl
   clear hi
   simp only [sel_true, selv_true] at hK ⊢
   have cm0 : V.cell? ⟨mp, 0, none⟩ = _ := (blk_cell (HF.out.gr.blk HF.out.map) 0).trans rfl
   refine AnyOrder.wpOp_go rfl (by rfl) ?_
   go_wp2_with fail
   exact ⟨l0, l1, true, true, l4, l5, l6, l7, l8, rfl, rfl, HF⟩
  ·
   obtain rfl : l4 = false := (AnyOrder.mem_ready hi).2.1
   clear hi
   refine AnyOrder.wpOp_go rfl (by rfl) ?_
   go_wp2_with fail
   exact ⟨l0, l1, l2, l3, true, l5, l6, l7, l8, rfl, rfl, HF⟩
  ·
   obtain rfl : l5 = false := (AnyOrder.mem_ready hi).2.1
   obtain rfl : l4 = true := AnyOrder.dep (q := 0) hi rfl rfl rfl
   clear hi
   simp only [sel_true, selv_true] at hK ⊢
   have ce0 : V.cell? ⟨w.heap.size, 0, none⟩ = _ := (blk_cell (HF.out.gr.blk HF.out.ent) 0).trans rfl
   have ce1 : V.cell? ⟨w.heap.size, 1, none⟩ = _ := (blk_cell (HF.out.gr.blk HF.out.ent) 1).trans rfl
   refine AnyOrder.wpOp_go rfl (by rfl) ?_
   go_wp2_with fail
   exact ⟨l0, l1, l2, l3, true, true, l6, l7, l8, rfl, rfl, HF⟩
  ·
   obtain rfl : l6 = false := (AnyOrder.mem_ready hi).2.1
   clear hi
   have ck0 : V.cell? ⟨w.heap.size + 1, 0, none⟩ = _ := (blk_cell (HF.out.gr.blk HF.out.key) 0).trans rfl
   have ck1 : V.cell? ⟨w.heap.size + 1, 1, none⟩ = _ := (blk_cell (HF.out.gr.blk HF.out.key) 1).trans rfl
   refine AnyOrder.wpOp_go rfl (by rfl) ?_
   go_wp2_with fail
   exact ⟨l0, l1, l2, l3, l4, l5, true, l7, l8, rfl, rfl, HF⟩
  ·
   obtain rfl : l7 = false := (AnyOrder.mem_ready hi).2.1
   obtain rfl : l3 = true := AnyOrder.dep (q := 0) hi rfl rfl rfl
   obtain rfl : l5 = true := AnyOrder.dep (q := 1) hi rfl rfl rfl
   obtain rfl : l6 = true := AnyOrder.dep (q := 2) hi rfl rfl rfl
   clear hi
   simp only [sel_true, selv_true] at hK ⊢
   refine AnyOrder.wpOp_go rfl (by rfl) ?_
   go_wp2_with fail
   refine (dotCmp_call k d V).mono ?_
   rintro e V' ⟨rfl, hb⟩
   exact hK _ _ ⟨l0, l1, l2, true, l4, true, true, true, l8, rfl, rfl, ⟨⟨HF.out.gr.trans hb, HF.out.box, HF.out.map, HF.out.ent, HF.out.key⟩⟩⟩
  ·
   obtain rfl : l8 = false := (AnyOrder.mem_ready hi).2.1
   obtain rfl : l7 = true := AnyOrder.dep (q := 0) hi rfl rfl rfl
   obtain rfl : l0 = true := AnyOrder.dep (q := 2) hi rfl rfl rfl
   obtain rfl : l1 = true := AnyOrder.dep (q := 3) hi rfl rfl rfl
   obtain rfl : l2 = true := AnyOrder.dep (q := 4) hi rfl rfl rfl
   obtain rfl : l3 = true := AnyOrder.dep (q := 5) hi rfl rfl rfl
   obtain rfl : l4 = true := AnyOrder.dep (q := 6) hi rfl rfl rfl
   obtain rfl : l5 = true := AnyOrder.dep (q := 7) hi rfl rfl rfl
   obtain rfl : l6 = true := AnyOrder.dep (q := 8) hi rfl rfl rfl
   clear hi
   simp only [sel_true, selv_true] at hK ⊢
   refine AnyOrder.wpOp_go rfl (by rfl) ?_
   go_wp2_with fail
   exact ⟨true, true, true, true, true, true, true, true, true, rfl, rfl, HF⟩
 case last =>
  rintro L ac V ⟨l0, l1, l2, l3, l4, l5, l6, l7, l8, rfl, rfl, HF⟩ hr
  have hall := AnyOrder.all_listed rfl (by kernel_rfl) hr
  clear hr
  obtain rfl : l0 = true := hall 0 (by decide)
  obtain rfl : l1 = true := hall 1 (by decide)
  obtain rfl : l2 = true := hall 2 (by decide)
  obtain rfl : l3 = true := hall 3 (by decide)
  obtain rfl : l4 = true := hall 4 (by decide)
  obtain rfl : l5 = true := hall 5 (by decide)
  obtain rfl : l6 = true := hall 6 (by decide)
  obtain rfl : l7 = true := hall 7 (by decide)
  obtain rfl : l8 = true := hall 8 (by decide)
  clear hall
  simp only [sel_true, selv_true]
  go_wp2
  go_ret
  exact ⟨rfl, ((Gr.alloc w _).trans (Gr.alloc _ _)).trans HF.out.gr⟩
structure Ents (W : World) (A : Option Addr) (n : Nat) (ks : List Dot) (vs : List Value) : Prop where
 kl : ks.length = n
 vl : vs.length = n
 small : n ≤ 1000000
 one : ∀ v ∈ vs, v.oneCell' = true
 row : ∀ i k v, ks[i]? = some k → vs[i]? = some v → ∃ eb, A = some ⟨eb, 0, none⟩ ∧ W.cell? ⟨eb, i * 3, none⟩ = some (.int .i64 k.f0) ∧ W.cell? ⟨eb, i * 3 + 1, none⟩ = some (.int .i64 k.f1) ∧ W.cell? ⟨eb, i * 3 + 2, none⟩ = some v
theorem Ents.below {W V : World} {A : Option Addr} {n : Nat} {ks : List Dot} {vs : List Value} (h : Ents W A n ks vs) (hb : Below W.heap.size W V) : Ents V A n ks vs :=
 ⟨h.kl, h.vl, h.small, h.one, fun i k v hk hv => by
  obtain ⟨eb, e, h0, h1, h2⟩ := h.row i k v hk hv
  exact ⟨eb, e, pw_cell_below hb h0, pw_cell_below hb h1, pw_cell_below hb h2⟩⟩
theorem Ents.get {W : World} {A : Option Addr} {n : Nat} {ks : List Dot} {vs : List Value} (h : Ents W A n ks vs) {i : Nat} (hi : i < n) : ∃ k v eb, ks[i]? = some k ∧ vs[i]? = some v ∧ v.oneCell' = true ∧ A = some ⟨eb, 0, none⟩ ∧ W.cell? ⟨eb, i * 3, none⟩ = some (.int .i64 k.f0) ∧ W.cell? ⟨eb, i * 3 + 1, none⟩ = some (.int .i64 k.f1) ∧ W.cell? ⟨eb, i * 3 + 2, none⟩ = some v := by
 have h1 : i < ks.length := by rw [h.kl]; exact hi
 have h2 : i < vs.length := by rw [h.vl]; exact hi
 obtain ⟨eb, e, c0, c1, c2⟩ := h.row i _ _ (List.getElem?_eq_getElem h1) (List.getElem?_eq_getElem h2)
 exact ⟨_, _, eb, List.getElem?_eq_getElem h1, List.getElem?_eq_getElem h2, h.one _ (List.getElem_mem h2), e, c0, c1, c2⟩
/-- How many keys come before a dot, and whether it is there. -/
def posK (ks : List Dot) (d : Dot) : Nat := (ks.takeWhile fun k => dotLt k d).length
def hasK (ks : List Dot) (d : Dot) : Bool := decide (ks[posK ks d]? = some d)
theorem posK_le (ks : List Dot) (d : Dot) : posK ks d ≤ ks.length := (List.takeWhile_sublist _).length_le
theorem incB_tail {k : Dot} {ks : List Dot} (h : incB (k :: ks) = true) : incB ks = true ∧ ∀ x ∈ ks, dotLt k x = true := by
 induction ks generalizing k with
 | nil => exact ⟨rfl, fun x hx => by cases hx⟩
 | cons y ks ih =>
  simp only [incB, Bool.and_eq_true] at h
  refine ⟨h.2, fun x hx => ?_⟩
  rcases List.mem_cons.1 hx with rfl | hx
  ·
   exact h.1
  ·
   exact dotLt_trans h.1 ((ih h.2).2 x hx)
theorem posK_iff {ks : List Dot} (h : incB ks = true) (d : Dot) : ∀ {i : Nat} {k : Dot}, ks[i]? = some k → (dotLt k d = true ↔ i < posK ks d) := by
 induction ks with
 | nil => intro i k hk; simp at hk
 | cons y ks ih =>
  intro i k hk
  obtain ⟨h1, h2⟩ := incB_tail h
  unfold posK
  rw [List.takeWhile_cons]
  by_cases hy : dotLt y d = true
  ·
   rw [if_pos hy]
   cases i with
   | zero => simp at hk; subst hk; simp [hy]
   | succ i =>
    have := ih h1 (i := i) (k := k) (by simpa using hk)
    rw [this]; simp [posK]
  ·
   rw [if_neg hy]
   cases i with
   | zero => simp at hk; subst hk; simp [hy]
   | succ i =>
    have hm : k ∈ ks := List.mem_of_getElem? (by simpa using hk)
    have : ¬ dotLt k d = true := fun e => hy (dotLt_trans (h2 k hm) e)
    simp [this]
theorem dotCmp_lt (a b : Dot) : decide (dotCmp a b < 0) = dotLt a b := by
 unfold dotCmp
 cases dotLt a b <;> simp
 cases dotLt b a <;> simp
theorem dotCmp_eq (a b : Dot) : (dotCmp a b == 0) = decide (a = b) := by
 unfold dotCmp
 cases h : dotLt a b with
 | true =>
  have : a ≠ b := fun e => by subst e; rw [dotLt_irrefl] at h; cases h
  simp [this]
 | false =>
  cases k : dotLt b a with
  | true =>
   have : a ≠ b := fun e => by subst e; rw [dotLt_irrefl] at k; cases k
   simp [this]
  | false => simp [dotLt_total h k]
structure Bs (w : World) (d : Dot) (V : World) : Prop where
 below : Below w.heap.size w V
 box : V.heap[w.heap.size]? = some (.cells #[.int .i64 d.f0, .int .i64 d.f1] 33 (0, 0))
theorem Bs.more {w V V' : World} {d : Dot} (h : Bs w d V) (hb : Below V.heap.size V V') : Bs w d V' := ⟨below_more h.below hb, blk_keep h.box hb⟩
theorem Bs.drew {w V : World} {d : Dot} (h : Bs w d V) : Bs w d V.drew := h.more (Gr.drew V).below
def bsrInv (w : World) (B bm eb n c : Nat) (d : Dot) (i j h : Nat) (k : Dot) (v : Value) (z12 z13 z14 z15 z16 z17 z18 z19 z20 z21 z22 z23 u24 u25 u26 u27 u28 u29 u30 u31 u32 u33 u34 : Value) (L : Array Bool) (ac : Act) (V : World) : Prop := ∃ (l0 l1 l2 l3 l4 l5 l6 l7 : Bool), L = #[l0, l1, l2, l3, l4, l5, l6, l7] ∧ ac = { tmps := #[.slice (some ⟨eb, 0, none⟩) n c, vDot d, .func (.func 110) #[] #[.pointer (some ⟨bm, 0, none⟩)], undef, .pointer (some ⟨B, 0, none⟩), undef, .int .i64 0, .bool false, .int .i64 n, .int .i64 i, .int .i64 j, .int .i64 h, z12, z13, z14, z15, z16, z17, z18, z19, z20, z21, z22, z23, selv l0 (.func (.func 110) #[] #[.pointer (some ⟨bm, 0, none⟩)]) (u24), selv l1 (.slice (some ⟨eb, 0, none⟩) n c) (u25), selv l2 (.int .i64 h) (u26), selv l3 (.pointer (some ⟨eb, h * 3, none⟩)) (u27), selv l4 (vEnt k v) (u28), selv l5 (vDot d) (u29), selv l6 (.int .i64 (dotCmp k d)) (u30), selv l7 (.bool (decide (dotCmp k d < 0))) (u31), u32, u33, u34, undef, undef, undef, undef, undef, undef, undef, undef, undef, undef, undef, undef, undef, undef], defers := [] } ∧ Aside0 (Bs w d V)
def bstInv (w : World) (B bm eb n c : Nat) (d : Dot) (q : Nat) (k : Dot) (v : Value) (y11 y12 y13 y14 y15 y16 y17 y18 y19 y20 y21 y22 y23 y24 y25 y26 y27 y28 y29 y30 y31 y32 y33 y34 : Value) (L : Array Bool) (ac : Act) (V : World) : Prop := ∃ (l0 l1 l2 l3 l4 l5 l6 l7 l8 l9 l10 l11 l12 l13 l14 l15 : Bool), L = #[l0, l1, l2, l3, l4, l5, l6, l7, l8, l9, l10, l11, l12, l13, l14, l15] ∧ ac = { tmps := #[.slice (some ⟨eb, 0, none⟩) n c, vDot d, .func (.func 110) #[] #[.pointer (some ⟨bm, 0, none⟩)], undef, .pointer (some ⟨B, 0, none⟩), undef, selv l14 (.int .i64 q) (.int .i64 0), selv l15 (.bool (dotCmp k d == 0)) (.bool false), .int .i64 n, .int .i64 q, .int .i64 q, y11, y12, y13, y14, y15, y16, y17, y18, y19, y20, y21, y22, y23, y24, y25, y26, y27, y28, y29, y30, y31, y32, y33, y34, sel l0 (.int .i64 q), sel l1 (.int .i64 q), sel l2 (.int .i64 n), sel l3 (.bool true), sel l4 (.bool true), sel l5 (.func (.func 110) #[] #[.pointer (some ⟨bm, 0, none⟩)]), sel l6 (.slice (some ⟨eb, 0, none⟩) n c), sel l7 (.int .i64 q), sel l8 (.pointer (some ⟨eb, q * 3, none⟩)), sel l9 (vEnt k v), sel l10 (vDot d), sel l11 (.int .i64 (dotCmp k d)), sel l12 (.bool (dotCmp k d == 0)), sel l13 (.bool (dotCmp k d == 0))], defers := [] } ∧ Aside0 (Bs w d V)
def bsfInv (w : World) (A : Option Addr) (B bm n c : Nat) (d : Dot) (y11 y12 y13 y14 y15 y16 y17 y18 y19 y20 y21 y22 y23 y24 y25 y26 y27 y28 y29 y30 y31 y32 y33 y34 : Value) (L : Array Bool) (ac : Act) (V : World) : Prop := ∃ (l0 l1 l2 l3 l4 l5 l6 l7 l8 l9 l10 l11 l12 l13 l14 l15 : Bool), L = #[l0, l1, l2, l3, l4, l5, l6, l7, l8, l9, l10, l11, l12, l13, l14, l15] ∧ ac = { tmps := #[.slice A n c, vDot d, .func (.func 110) #[] #[.pointer (some ⟨bm, 0, none⟩)], undef, .pointer (some ⟨B, 0, none⟩), undef, selv l14 (.int .i64 n) (.int .i64 0), selv l15 (.bool false) (.bool false), .int .i64 n, .int .i64 n, .int .i64 n, y11, y12, y13, y14, y15, y16, y17, y18, y19, y20, y21, y22, y23, y24, y25, y26, y27, y28, y29, y30, y31, y32, y33, y34, sel l0 (.int .i64 n), sel l1 (.int .i64 n), sel l2 (.int .i64 n), sel l3 (.bool false), sel l4 (.bool false), sel l5 (undef), sel l6 (undef), sel l7 (undef), sel l8 (undef), sel l9 (undef), sel l10 (undef), sel l11 (undef), sel l12 (undef), sel l13 (.bool false)], defers := [] } ∧ Aside0 (Bs w d V)
set_option maxHeartbeats 2000000 in
set_option maxRecDepth 100000 in
theorem bsearch_call (ks : List Dot) (vs : List Value) (A : Option Addr) (n c : Nat) (d : Dot) (bm mp : Nat) (sl : Value) (w : World) (hs : incB ks = true) (he : Ents w A n ks vs) (hbm : w.heap[bm]? = some (.cells #[.pointer (some ⟨mp, 0, none⟩)] 96 (0, 0))) (hmp : w.heap[mp]? = some (.cells #[cmpV, sl] 142 (0, 0))) :
  Calls Tryz.prog 109 #[.slice A n c, vDot d, .func (.func 110) #[] #[.pointer (some ⟨bm, 0, none⟩)]] w fun e w' => e = .returned (.tuple #[.int .i64 (posK ks d), .bool (hasK ks d)]) ∧ Below w.heap.size w w' := by
 have HE := Aside0.mk he
 have HBM := Aside0.mk hbm
 have HMP := Aside0.mk hmp
 have HS := Aside0.mk hs
 have hn := he.small
 have HQN : Aside0 (posK ks d ≤ n) := ⟨by rw [← he.kl]; exact posK_le ks d⟩
 clear he hbm hmp hs
 obtain ⟨q, HQ⟩ : ∃ q, Aside0 (posK ks d = q) := ⟨_, ⟨rfl⟩⟩
 obtain ⟨hf, HHF⟩ : ∃ hf, Aside0 (hasK ks d = hf) := ⟨_, ⟨rfl⟩⟩
 rw [HQ.out, HHF.out]
 rw [HQ.out] at HQN
 have HB0 : Aside0 (Bs w d (w.alloc (.cells #[.int .i64 d.f0, .int .i64 d.f1] 33 (0, 0)))) := ⟨(Gr.alloc w _).below, blk_new _ _⟩
 go_enter Tryz.func109, Tryz.ntmps109
 go_wp2
 go_loopw [9, 10] (fun i j wr => ∃ i' j' : Nat, i' ≤ q ∧ q ≤ j' ∧ j' ≤ n ∧ i = .int .i64 i' ∧ j = .int .i64 j' ∧ Aside0 (Bs w d wr)) (fun i j _ => (intOf j - intOf i).toNat)
 case atStart => exact ⟨0, n, Nat.zero_le _, HQN.out, Nat.le_refl _, rfl, rfl, HB0⟩
 case round =>
  obtain ⟨i, j, hi, hj, hjn, rfl, rfl, HB⟩ := hrel
  clear HB0
  by_cases hlt : i < j
  ·
   have hlb : decide ((i : Int) < (j : Int)) = true := decide_eq_true (by omega)
   obtain ⟨h, Hh⟩ : ∃ h : Nat, h = (i + j) / 2 := ⟨_, rfl⟩
   have hm : ((i : Int) + (j : Int)) / 2 = (h : Int) := by omega
   have HH : Aside0 (h < n) := ⟨by omega⟩
   have HIJ : Aside0 (i ≤ h ∧ h < j) := ⟨by omega⟩
   clear Hh
   obtain ⟨k, v, eb, hk, hvk, hv1, rfl, c0, c1, c2⟩ := HE.out.get HH.out
   have HC := Aside0.mk (And.intro c0 (And.intro c1 c2))
   have HV := Aside0.mk hv1
   have HL : Aside0 (dotLt k d = true ↔ h < q) := ⟨by rw [← HQ.out]; exact posK_iff HS.out d hk⟩
   clear c0 c1 c2 hk hvk hv1
   go_wp2_with fail
   refine AnyOrder.wp_region (by kernel_rfl) (bsrInv w w.heap.size bm eb n c d i j h k v (.slice (some ⟨eb, 0, none⟩) n c) (.int .i64 n) (.int .i64 n) (.int .i64 i) (.int .i64 j) (.bool true) (.int .i64 i) (.int .i64 j) (.int .i64 ((i : Int) + (j : Int))) (.int .u64 ((i : Int) + (j : Int))) (.int .u64 h) (.int .i64 h) u24 u25 u26 u27 u28 u29 u30 u31 u32 u33 u34) ?start ?step ?last
   case start => exact ⟨false, false, false, false, false, false, false, false, rfl, rfl, ⟨HB.out.drew⟩⟩
   case step =>
    rintro L ac V i ⟨l0, l1, l2, l3, l4, l5, l6, l7, rfl, rfl, HF⟩ hi K hK
    have h1 : i = 0 ∨ i = 1 ∨ i = 2 ∨ i = 3 ∨ i = 4 ∨ i = 5 ∨ i = 6 ∨ i = 7 := by
     have h1 := (AnyOrder.mem_ready hi).1
     clear hi hK
     change i < 8 at h1
     omega
    rcases h1 with rfl | rfl | rfl | rfl | rfl | rfl | rfl | rfl
    ·
     obtain rfl : l0 = false := (AnyOrder.mem_ready hi).2.1
     clear hi
     refine AnyOrder.wpOp_go rfl (by rfl) ?_
     go_wp2_with fail
     exact ⟨true, l1, l2, l3, l4, l5, l6, l7, rfl, rfl, HF⟩
    ·
     obtain rfl : l1 = false := (AnyOrder.mem_ready hi).2.1
     clear hi
     refine AnyOrder.wpOp_go rfl (by rfl) ?_
     go_wp2_with fail
     exact ⟨l0, true, l2, l3, l4, l5, l6, l7, rfl, rfl, HF⟩
    ·
     obtain rfl : l2 = false := (AnyOrder.mem_ready hi).2.1
     clear hi
     refine AnyOrder.wpOp_go rfl (by rfl) ?_
     go_wp2_with fail
     exact ⟨l0, l1, true, l3, l4, l5, l6, l7, rfl, rfl, HF⟩
    ·
     obtain rfl : l3 = false := (AnyOrder.mem_ready hi).2.1
     obtain rfl : l1 = true := AnyOrder.dep (q := 0) hi rfl rfl rfl
     obtain rfl : l2 = true := AnyOrder.dep (q := 1) hi rfl rfl rfl
     clear hi
     simp only [sel_true, selv_true] at hK ⊢
     have hh := HH.out
     refine AnyOrder.wpOp_go rfl (by rfl) ?_
     go_wp2_with fail
     exact ⟨l0, true, true, true, l4, l5, l6, l7, rfl, rfl, HF⟩
    ·
     obtain rfl : l4 = false := (AnyOrder.mem_ready hi).2.1
     obtain rfl : l3 = true := AnyOrder.dep (q := 0) hi rfl rfl rfl
     clear hi
     simp only [sel_true, selv_true] at hK ⊢
     obtain ⟨q0, q1, q2⟩ := HC.out
     have e0 : V.cell? ⟨eb, h * 3, none⟩ = _ := pw_cell_below HF.out.below q0
     have e1 : V.cell? ⟨eb, h * 3 + 1, none⟩ = _ := pw_cell_below HF.out.below q1
     have e2 : V.cell? ⟨eb, h * 3 + 2, none⟩ = _ := pw_cell_below HF.out.below q2
     have hv := HV.out
     clear q0 q1 q2
     refine AnyOrder.wpOp_go rfl (by rfl) ?_
     go_wp2_with fail
     exact ⟨l0, l1, l2, true, true, l5, l6, l7, rfl, rfl, HF⟩
    ·
     obtain rfl : l5 = false := (AnyOrder.mem_ready hi).2.1
     clear hi
     have d0 : V.cell? ⟨w.heap.size, 0, none⟩ = _ := (blk_cell HF.out.box 0).trans rfl
     have d1 : V.cell? ⟨w.heap.size, 1, none⟩ = _ := (blk_cell HF.out.box 1).trans rfl
     refine AnyOrder.wpOp_go rfl (by rfl) ?_
     go_wp2_with fail
     exact ⟨l0, l1, l2, l3, l4, true, l6, l7, rfl, rfl, HF⟩
    ·
     obtain rfl : l6 = false := (AnyOrder.mem_ready hi).2.1
     obtain rfl : l0 = true := AnyOrder.dep (q := 0) hi rfl rfl rfl
     obtain rfl : l4 = true := AnyOrder.dep (q := 1) hi rfl rfl rfl
     obtain rfl : l5 = true := AnyOrder.dep (q := 2) hi rfl rfl rfl
     clear hi
     simp only [sel_true, selv_true] at hK ⊢
     refine AnyOrder.wpOp_go rfl (by rfl) ?_
     go_wp2_with fail
     refine (find1_call k v HV.out d bm mp sl V (blk_keep HBM.out HF.out.below) (blk_keep HMP.out HF.out.below)).mono ?_
     rintro e V' ⟨rfl, hb⟩
     exact hK _ _ ⟨true, l1, l2, l3, true, true, true, l7, rfl, rfl, ⟨HF.out.more hb.below⟩⟩
    ·
     obtain rfl : l7 = false := (AnyOrder.mem_ready hi).2.1
     obtain rfl : l6 = true := AnyOrder.dep (q := 0) hi rfl rfl rfl
     clear hi
     simp only [sel_true, selv_true] at hK ⊢
     refine AnyOrder.wpOp_go rfl (by rfl) ?_
     go_wp2_with fail
     exact ⟨l0, l1, l2, l3, l4, l5, true, true, rfl, rfl, HF⟩
   case last =>
    rintro L ac V ⟨l0, l1, l2, l3, l4, l5, l6, l7, rfl, rfl, HF⟩ hr
    have hall := AnyOrder.all_listed rfl (by kernel_rfl) hr
    clear hr
    obtain rfl : l0 = true := hall 0 (by decide)
    obtain rfl : l1 = true := hall 1 (by decide)
    obtain rfl : l2 = true := hall 2 (by decide)
    obtain rfl : l3 = true := hall 3 (by decide)
    obtain rfl : l4 = true := hall 4 (by decide)
    obtain rfl : l5 = true := hall 5 (by decide)
    obtain rfl : l6 = true := hall 6 (by decide)
    obtain rfl : l7 = true := hall 7 (by decide)
    clear hall
    simp only [sel_true, selv_true]
    clear hm
    rw [dotCmp_lt]
    cases hd : dotLt k d with
    | true =>
     have hw1 : wrap64 ((h : Int) + 1) = ((h + 1 : Nat) : Int) := by unfold wrap64; have := HH.out; omega
     have h2 := HL.out.1 hd
     have HIJ2 := HIJ.out
     clear hd
     go_wp2_with fail
     refine ⟨⟨h + 1, j, by omega, hj, hjn, by (first | rfl | (rw [hw1])), rfl, HF⟩, ?_⟩
     simp [intOf]; omega
    | false =>
     have h2 : ¬ h < q := fun e => by have := HL.out.2 e; rw [hd] at this; cases this
     have HIJ2 := HIJ.out
     clear hd
     go_wp2_with fail
     refine ⟨⟨i, h, hi, by omega, by omega, rfl, rfl, HF⟩, ?_⟩
     simp [intOf]; omega
  ·
   obtain rfl : q = i := by omega
   obtain rfl : q = j := by omega
   have hlb : decide ((q : Int) < (q : Int)) = false := decide_eq_false (by omega)
   by_cases hq : q < n
   ·
    have HH := Aside0.mk hq
    obtain ⟨k, v, eb, hk, hvk, hv1, rfl, c0, c1, c2⟩ := HE.out.get HH.out
    have HC := Aside0.mk (And.intro c0 (And.intro c1 c2))
    have HV := Aside0.mk hv1
    have HR : Aside0 (hf = (dotCmp k d == 0)) := ⟨by rw [← HHF.out, hasK, HQ.out, hk, dotCmp_eq]; simp⟩
    clear c0 c1 c2 hk hvk hv1
    go_wp2_with fail
    refine AnyOrder.wp_region (by kernel_rfl) (bstInv w w.heap.size bm eb n c d q k v u11 (.slice (some ⟨eb, 0, none⟩) n c) (.int .i64 n) (.int .i64 n) (.int .i64 q) (.int .i64 q) (.bool false) u18 u19 u20 u21 u22 u23 u24 u25 u26 u27 u28 u29 u30 u31 u32 u33 u34) ?start ?step ?last
    case start => exact ⟨false, false, false, false, false, false, false, false, false, false, false, false, false, false, false, false, rfl, rfl, ⟨HB.out.drew⟩⟩
    case step =>
     rintro L ac V i ⟨l0, l1, l2, l3, l4, l5, l6, l7, l8, l9, l10, l11, l12, l13, l14, l15, rfl, rfl, HF⟩ hi K hK
     have h1 : i = 0 ∨ i = 1 ∨ i = 2 ∨ i = 3 ∨ i = 4 ∨ i = 5 ∨ i = 6 ∨ i = 7 ∨ i = 8 ∨ i = 9 ∨ i = 10 ∨ i = 11 ∨ i = 12 ∨ i = 13 ∨ i = 14 ∨ i = 15 := by
      have h1 := (AnyOrder.mem_ready hi).1
      clear hi hK
      change i < 16 at h1
      omega
     rcases h1 with rfl | rfl | rfl | rfl | rfl | rfl | rfl | rfl | rfl | rfl | rfl | rfl | rfl | rfl | rfl | rfl
     ·
      obtain rfl : l0 = false := (AnyOrder.mem_ready hi).2.1
      clear hi
      refine AnyOrder.wpOp_go rfl (by rfl) ?_
      go_wp2_with fail
      exact ⟨true, l1, l2, l3, l4, l5, l6, l7, l8, l9, l10, l11, l12, l13, l14, l15, rfl, rfl, HF⟩
     ·
      obtain rfl : l1 = false := (AnyOrder.mem_ready hi).2.1
      clear hi
      refine AnyOrder.wpOp_go rfl (by rfl) ?_
      go_wp2_with fail
      exact ⟨l0, true, l2, l3, l4, l5, l6, l7, l8, l9, l10, l11, l12, l13, l14, l15, rfl, rfl, HF⟩
     ·
      obtain rfl : l2 = false := (AnyOrder.mem_ready hi).2.1
      clear hi
      refine AnyOrder.wpOp_go rfl (by rfl) ?_
      go_wp2_with fail
      exact ⟨l0, l1, true, l3, l4, l5, l6, l7, l8, l9, l10, l11, l12, l13, l14, l15, rfl, rfl, HF⟩
     ·
      obtain rfl : l3 = false := (AnyOrder.mem_ready hi).2.1
      obtain rfl : l1 = true := AnyOrder.dep (q := 0) hi rfl rfl rfl
      obtain rfl : l2 = true := AnyOrder.dep (q := 1) hi rfl rfl rfl
      clear hi
      simp only [sel_true, selv_true] at hK ⊢
      have hh : decide ((q : Int) < (n : Int)) = true := decide_eq_true (by have := HH.out; omega)
      refine AnyOrder.wpOp_go rfl (by rfl) ?_
      go_wp2_with fail
      exact ⟨l0, true, true, true, l4, l5, l6, l7, l8, l9, l10, l11, l12, l13, l14, l15, rfl, rfl, HF⟩
     ·
      obtain rfl : l4 = false := (AnyOrder.mem_ready hi).2.1
      obtain rfl : l3 = true := AnyOrder.dep (q := 0) hi rfl rfl rfl
      clear hi
      simp only [sel_true, selv_true] at hK ⊢
      refine AnyOrder.wpOp_go rfl (by rfl) ?_
      go_wp2_with fail
      exact ⟨l0, l1, l2, true, true, l5, l6, l7, l8, l9, l10, l11, l12, l13, l14, l15, rfl, rfl, HF⟩
     ·
      obtain rfl : l5 = false := (AnyOrder.mem_ready hi).2.1
      obtain rfl : l4 = true := AnyOrder.dep (q := 0) hi rfl rfl rfl
      clear hi
      simp only [sel_true, selv_true] at hK ⊢
      refine AnyOrder.wpOp_go rfl (by rfl) ?_
      go_wp2_with fail
      exact ⟨l0, l1, l2, l3, true, true, l6, l7, l8, l9, l10, l11, l12, l13, l14, l15, rfl, rfl, HF⟩
     ·
      obtain rfl : l6 = false := (AnyOrder.mem_ready hi).2.1
      obtain rfl : l4 = true := AnyOrder.dep (q := 0) hi rfl rfl rfl
      clear hi
      simp only [sel_true, selv_true] at hK ⊢
      refine AnyOrder.wpOp_go rfl (by rfl) ?_
      go_wp2_with fail
      exact ⟨l0, l1, l2, l3, true, l5, true, l7, l8, l9, l10, l11, l12, l13, l14, l15, rfl, rfl, HF⟩
     ·
      obtain rfl : l7 = false := (AnyOrder.mem_ready hi).2.1
      obtain rfl : l4 = true := AnyOrder.dep (q := 0) hi rfl rfl rfl
      clear hi
      simp only [sel_true, selv_true] at hK ⊢
      refine AnyOrder.wpOp_go rfl (by rfl) ?_
      go_wp2_with fail
      exact ⟨l0, l1, l2, l3, true, l5, l6, true, l8, l9, l10, l11, l12, l13, l14, l15, rfl, rfl, HF⟩
     ·
      obtain rfl : l8 = false := (AnyOrder.mem_ready hi).2.1
      obtain rfl : l6 = true := AnyOrder.dep (q := 0) hi rfl rfl rfl
      obtain rfl : l7 = true := AnyOrder.dep (q := 1) hi rfl rfl rfl
      obtain rfl : l4 = true := AnyOrder.dep (q := 2) hi rfl rfl rfl
      clear hi
      simp only [sel_true, selv_true] at hK ⊢
      have hh := HH.out
      refine AnyOrder.wpOp_go rfl (by rfl) ?_
      go_wp2_with fail
      exact ⟨l0, l1, l2, l3, true, l5, true, true, true, l9, l10, l11, l12, l13, l14, l15, rfl, rfl, HF⟩
     ·
      obtain rfl : l9 = false := (AnyOrder.mem_ready hi).2.1
      obtain rfl : l8 = true := AnyOrder.dep (q := 0) hi rfl rfl rfl
      obtain rfl : l4 = true := AnyOrder.dep (q := 1) hi rfl rfl rfl
      clear hi
      simp only [sel_true, selv_true] at hK ⊢
      obtain ⟨q0, q1, q2⟩ := HC.out
      have e0 : V.cell? ⟨eb, q * 3, none⟩ = _ := pw_cell_below HF.out.below q0
      have e1 : V.cell? ⟨eb, q * 3 + 1, none⟩ = _ := pw_cell_below HF.out.below q1
      have e2 : V.cell? ⟨eb, q * 3 + 2, none⟩ = _ := pw_cell_below HF.out.below q2
      have hv := HV.out
      clear q0 q1 q2
      refine AnyOrder.wpOp_go rfl (by rfl) ?_
      go_wp2_with fail
      exact ⟨l0, l1, l2, l3, true, l5, l6, l7, true, true, l10, l11, l12, l13, l14, l15, rfl, rfl, HF⟩
     ·
      obtain rfl : l10 = false := (AnyOrder.mem_ready hi).2.1
      obtain rfl : l4 = true := AnyOrder.dep (q := 0) hi rfl rfl rfl
      clear hi
      simp only [sel_true, selv_true] at hK ⊢
      have d0 : V.cell? ⟨w.heap.size, 0, none⟩ = _ := (blk_cell HF.out.box 0).trans rfl
      have d1 : V.cell? ⟨w.heap.size, 1, none⟩ = _ := (blk_cell HF.out.box 1).trans rfl
      refine AnyOrder.wpOp_go rfl (by rfl) ?_
      go_wp2_with fail
      exact ⟨l0, l1, l2, l3, true, l5, l6, l7, l8, l9, true, l11, l12, l13, l14, l15, rfl, rfl, HF⟩
     ·
      obtain rfl : l11 = false := (AnyOrder.mem_ready hi).2.1
      obtain rfl : l5 = true := AnyOrder.dep (q := 0) hi rfl rfl rfl
      obtain rfl : l9 = true := AnyOrder.dep (q := 1) hi rfl rfl rfl
      obtain rfl : l10 = true := AnyOrder.dep (q := 2) hi rfl rfl rfl
      obtain rfl : l4 = true := AnyOrder.dep (q := 3) hi rfl rfl rfl
      clear hi
      simp only [sel_true, selv_true] at hK ⊢
      refine AnyOrder.wpOp_go rfl (by rfl) ?_
      go_wp2_with fail
      refine (find1_call k v HV.out d bm mp sl V (blk_keep HBM.out HF.out.below) (blk_keep HMP.out HF.out.below)).mono ?_
      rintro e V' ⟨rfl, hb⟩
      exact hK _ _ ⟨l0, l1, l2, l3, true, true, l6, l7, l8, true, true, true, l12, l13, l14, l15, rfl, rfl, ⟨HF.out.more hb.below⟩⟩
     ·
      obtain rfl : l12 = false := (AnyOrder.mem_ready hi).2.1
      obtain rfl : l11 = true := AnyOrder.dep (q := 0) hi rfl rfl rfl
      obtain rfl : l4 = true := AnyOrder.dep (q := 1) hi rfl rfl rfl
      clear hi
      simp only [sel_true, selv_true] at hK ⊢
      refine AnyOrder.wpOp_go rfl (by rfl) ?_
      go_wp2_with fail
      exact ⟨l0, l1, l2, l3, true, l5, l6, l7, l8, l9, l10, true, true, l13, l14, l15, rfl, rfl, HF⟩
     ·
      obtain rfl : l13 = false := (AnyOrder.mem_ready hi).2.1
      obtain rfl : l4 = true := AnyOrder.dep (q := 0) hi rfl rfl rfl
      obtain rfl : l12 = true := AnyOrder.dep (q := 1) hi rfl rfl rfl
      clear hi
      simp only [sel_true, selv_true] at hK ⊢
      refine AnyOrder.wpOp_go rfl (by rfl) ?_
      go_wp2_with fail
      exact ⟨l0, l1, l2, l3, true, l5, l6, l7, l8, l9, l10, l11, true, true, l14, l15, rfl, rfl, HF⟩
     ·
      obtain rfl : l14 = false := (AnyOrder.mem_ready hi).2.1
      obtain rfl : l0 = true := AnyOrder.dep (q := 0) hi rfl rfl rfl
      obtain rfl : l11 = true := AnyOrder.dep (q := 1) hi rfl rfl rfl
      clear hi
      simp only [sel_true, selv_true] at hK ⊢
      refine AnyOrder.wpOp_go rfl (by rfl) ?_
      go_wp2_with fail
      exact ⟨true, l1, l2, l3, l4, l5, l6, l7, l8, l9, l10, true, l12, l13, true, l15, rfl, rfl, HF⟩
     ·
      obtain rfl : l15 = false := (AnyOrder.mem_ready hi).2.1
      obtain rfl : l13 = true := AnyOrder.dep (q := 0) hi rfl rfl rfl
      obtain rfl : l14 = true := AnyOrder.dep (q := 1) hi rfl rfl rfl
      obtain rfl : l0 = true := AnyOrder.dep (q := 2) hi rfl rfl rfl
      obtain rfl : l1 = true := AnyOrder.dep (q := 3) hi rfl rfl rfl
      obtain rfl : l2 = true := AnyOrder.dep (q := 4) hi rfl rfl rfl
      obtain rfl : l3 = true := AnyOrder.dep (q := 5) hi rfl rfl rfl
      obtain rfl : l4 = true := AnyOrder.dep (q := 6) hi rfl rfl rfl
      obtain rfl : l5 = true := AnyOrder.dep (q := 7) hi rfl rfl rfl
      obtain rfl : l6 = true := AnyOrder.dep (q := 8) hi rfl rfl rfl
      obtain rfl : l7 = true := AnyOrder.dep (q := 9) hi rfl rfl rfl
      obtain rfl : l8 = true := AnyOrder.dep (q := 10) hi rfl rfl rfl
      obtain rfl : l9 = true := AnyOrder.dep (q := 11) hi rfl rfl rfl
      obtain rfl : l10 = true := AnyOrder.dep (q := 12) hi rfl rfl rfl
      obtain rfl : l11 = true := AnyOrder.dep (q := 13) hi rfl rfl rfl
      obtain rfl : l12 = true := AnyOrder.dep (q := 14) hi rfl rfl rfl
      clear hi
      simp only [sel_true, selv_true] at hK ⊢
      refine AnyOrder.wpOp_go rfl (by rfl) ?_
      go_wp2_with fail
      exact ⟨true, true, true, true, true, true, true, true, true, true, true, true, true, true, true, true, rfl, rfl, HF⟩
    case last =>
     rintro L ac V ⟨l0, l1, l2, l3, l4, l5, l6, l7, l8, l9, l10, l11, l12, l13, l14, l15, rfl, rfl, HF⟩ hr
     have hall := AnyOrder.all_listed rfl (by kernel_rfl) hr
     clear hr
     obtain rfl : l0 = true := hall 0 (by decide)
     obtain rfl : l1 = true := hall 1 (by decide)
     obtain rfl : l2 = true := hall 2 (by decide)
     obtain rfl : l3 = true := hall 3 (by decide)
     obtain rfl : l4 = true := hall 4 (by decide)
     obtain rfl : l5 = true := hall 5 (by decide)
     obtain rfl : l6 = true := hall 6 (by decide)
     obtain rfl : l7 = true := hall 7 (by decide)
     obtain rfl : l8 = true := hall 8 (by decide)
     obtain rfl : l9 = true := hall 9 (by decide)
     obtain rfl : l10 = true := hall 10 (by decide)
     obtain rfl : l11 = true := hall 11 (by decide)
     obtain rfl : l12 = true := hall 12 (by decide)
     obtain rfl : l13 = true := hall 13 (by decide)
     obtain rfl : l14 = true := hall 14 (by decide)
     obtain rfl : l15 = true := hall 15 (by decide)
     clear hall
     simp only [sel_true, selv_true]
     go_wp2
     refine bodyPost_ret (results_tmp2 rfl _ _ _) rfl ?_
     exact ⟨by rw [HR.out]; rfl, HF.out.below⟩
   ·
    obtain rfl : n = q := by omega
    have HR : Aside0 (hf = false) := ⟨by rw [← HHF.out, hasK, HQ.out, List.getElem?_eq_none (by rw [HE.out.kl]; exact Nat.le_refl _)]; rfl⟩
    go_wp2_with fail
    refine AnyOrder.wp_region (by kernel_rfl) (bsfInv w A w.heap.size bm n c d u11 (.slice A n c) (.int .i64 n) (.int .i64 n) (.int .i64 n) (.int .i64 n) (.bool false) u18 u19 u20 u21 u22 u23 u24 u25 u26 u27 u28 u29 u30 u31 u32 u33 u34) ?start ?step ?last
    case start => exact ⟨false, false, false, false, false, false, false, false, false, false, false, false, false, false, false, false, rfl, rfl, ⟨HB.out.drew⟩⟩
    case step =>
     rintro L ac V i ⟨l0, l1, l2, l3, l4, l5, l6, l7, l8, l9, l10, l11, l12, l13, l14, l15, rfl, rfl, HF⟩ hi K hK
     have h1 : i = 0 ∨ i = 1 ∨ i = 2 ∨ i = 3 ∨ i = 4 ∨ i = 5 ∨ i = 6 ∨ i = 7 ∨ i = 8 ∨ i = 9 ∨ i = 10 ∨ i = 11 ∨ i = 12 ∨ i = 13 ∨ i = 14 ∨ i = 15 := by
      have h1 := (AnyOrder.mem_ready hi).1
      clear hi hK
      change i < 16 at h1
      omega
     rcases h1 with rfl | rfl | rfl | rfl | rfl | rfl | rfl | rfl | rfl | rfl | rfl | rfl | rfl | rfl | rfl | rfl
     ·
      obtain rfl : l0 = false := (AnyOrder.mem_ready hi).2.1
      clear hi
      refine AnyOrder.wpOp_go rfl (by rfl) ?_
      go_wp2_with fail
      exact ⟨true, l1, l2, l3, l4, l5, l6, l7, l8, l9, l10, l11, l12, l13, l14, l15, rfl, rfl, HF⟩
     ·
      obtain rfl : l1 = false := (AnyOrder.mem_ready hi).2.1
      clear hi
      refine AnyOrder.wpOp_go rfl (by rfl) ?_
      go_wp2_with fail
      exact ⟨l0, true, l2, l3, l4, l5, l6, l7, l8, l9, l10, l11, l12, l13, l14, l15, rfl, rfl, HF⟩
     ·
      obtain rfl : l2 = false := (AnyOrder.mem_ready hi).2.1
      clear hi
      refine AnyOrder.wpOp_go rfl (by rfl) ?_
      go_wp2_with fail
      exact ⟨l0, l1, true, l3, l4, l5, l6, l7, l8, l9, l10, l11, l12, l13, l14, l15, rfl, rfl, HF⟩
     ·
      obtain rfl : l3 = false := (AnyOrder.mem_ready hi).2.1
      obtain rfl : l1 = true := AnyOrder.dep (q := 0) hi rfl rfl rfl
      obtain rfl : l2 = true := AnyOrder.dep (q := 1) hi rfl rfl rfl
      clear hi
      simp only [sel_true, selv_true] at hK ⊢
      have hh : decide ((n : Int) < (n : Int)) = false := decide_eq_false (by omega)
      refine AnyOrder.wpOp_go rfl (by rfl) ?_
      go_wp2_with fail
      exact ⟨l0, true, true, true, l4, l5, l6, l7, l8, l9, l10, l11, l12, l13, l14, l15, rfl, rfl, HF⟩
     ·
      obtain rfl : l4 = false := (AnyOrder.mem_ready hi).2.1
      obtain rfl : l3 = true := AnyOrder.dep (q := 0) hi rfl rfl rfl
      clear hi
      simp only [sel_true, selv_true] at hK ⊢
      refine AnyOrder.wpOp_go rfl (by rfl) ?_
      go_wp2_with fail
      exact ⟨l0, l1, l2, true, true, l5, l6, l7, l8, l9, l10, l11, l12, l13, l14, l15, rfl, rfl, HF⟩
     ·
      obtain rfl : l5 = false := (AnyOrder.mem_ready hi).2.1
      obtain rfl : l4 = true := AnyOrder.dep (q := 0) hi rfl rfl rfl
      clear hi
      simp only [sel_true, selv_true] at hK ⊢
      refine AnyOrder.wpOp_out rfl (by rfl) ?_
      exact hK _ _ ⟨l0, l1, l2, l3, true, true, l6, l7, l8, l9, l10, l11, l12, l13, l14, l15, rfl, rfl, HF⟩
     ·
      obtain rfl : l6 = false := (AnyOrder.mem_ready hi).2.1
      obtain rfl : l4 = true := AnyOrder.dep (q := 0) hi rfl rfl rfl
      clear hi
      simp only [sel_true, selv_true] at hK ⊢
      refine AnyOrder.wpOp_out rfl (by rfl) ?_
      exact hK _ _ ⟨l0, l1, l2, l3, true, l5, true, l7, l8, l9, l10, l11, l12, l13, l14, l15, rfl, rfl, HF⟩
     ·
      obtain rfl : l7 = false := (AnyOrder.mem_ready hi).2.1
      obtain rfl : l4 = true := AnyOrder.dep (q := 0) hi rfl rfl rfl
      clear hi
      simp only [sel_true, selv_true] at hK ⊢
      refine AnyOrder.wpOp_out rfl (by rfl) ?_
      exact hK _ _ ⟨l0, l1, l2, l3, true, l5, l6, true, l8, l9, l10, l11, l12, l13, l14, l15, rfl, rfl, HF⟩
     ·
      obtain rfl : l8 = false := (AnyOrder.mem_ready hi).2.1
      obtain rfl : l4 = true := AnyOrder.dep (q := 2) hi rfl rfl rfl
      clear hi
      simp only [sel_true, selv_true] at hK ⊢
      refine AnyOrder.wpOp_out rfl (by rfl) ?_
      exact hK _ _ ⟨l0, l1, l2, l3, true, l5, l6, l7, true, l9, l10, l11, l12, l13, l14, l15, rfl, rfl, HF⟩
     ·
      obtain rfl : l9 = false := (AnyOrder.mem_ready hi).2.1
      obtain rfl : l4 = true := AnyOrder.dep (q := 1) hi rfl rfl rfl
      clear hi
      simp only [sel_true, selv_true] at hK ⊢
      refine AnyOrder.wpOp_out rfl (by rfl) ?_
      exact hK _ _ ⟨l0, l1, l2, l3, true, l5, l6, l7, l8, true, l10, l11, l12, l13, l14, l15, rfl, rfl, HF⟩
     ·
      obtain rfl : l10 = false := (AnyOrder.mem_ready hi).2.1
      obtain rfl : l4 = true := AnyOrder.dep (q := 0) hi rfl rfl rfl
      clear hi
      simp only [sel_true, selv_true] at hK ⊢
      refine AnyOrder.wpOp_out rfl (by rfl) ?_
      exact hK _ _ ⟨l0, l1, l2, l3, true, l5, l6, l7, l8, l9, true, l11, l12, l13, l14, l15, rfl, rfl, HF⟩
     ·
      obtain rfl : l11 = false := (AnyOrder.mem_ready hi).2.1
      obtain rfl : l4 = true := AnyOrder.dep (q := 3) hi rfl rfl rfl
      clear hi
      simp only [sel_true, selv_true] at hK ⊢
      refine AnyOrder.wpOp_out rfl (by rfl) ?_
      exact hK _ _ ⟨l0, l1, l2, l3, true, l5, l6, l7, l8, l9, l10, true, l12, l13, l14, l15, rfl, rfl, HF⟩
     ·
      obtain rfl : l12 = false := (AnyOrder.mem_ready hi).2.1
      obtain rfl : l4 = true := AnyOrder.dep (q := 1) hi rfl rfl rfl
      clear hi
      simp only [sel_true, selv_true] at hK ⊢
      refine AnyOrder.wpOp_out rfl (by rfl) ?_
      exact hK _ _ ⟨l0, l1, l2, l3, true, l5, l6, l7, l8, l9, l10, l11, true, l13, l14, l15, rfl, rfl, HF⟩
     ·
      obtain rfl : l13 = false := (AnyOrder.mem_ready hi).2.1
      obtain rfl : l4 = true := AnyOrder.dep (q := 0) hi rfl rfl rfl
      obtain rfl : l12 = true := AnyOrder.dep (q := 1) hi rfl rfl rfl
      clear hi
      simp only [sel_true, selv_true] at hK ⊢
      refine AnyOrder.wpOp_go rfl (by rfl) ?_
      go_wp2_with fail
      exact ⟨l0, l1, l2, l3, true, l5, l6, l7, l8, l9, l10, l11, true, true, l14, l15, rfl, rfl, HF⟩
     ·
      obtain rfl : l14 = false := (AnyOrder.mem_ready hi).2.1
      obtain rfl : l0 = true := AnyOrder.dep (q := 0) hi rfl rfl rfl
      obtain rfl : l11 = true := AnyOrder.dep (q := 1) hi rfl rfl rfl
      clear hi
      simp only [sel_true, selv_true] at hK ⊢
      refine AnyOrder.wpOp_go rfl (by rfl) ?_
      go_wp2_with fail
      exact ⟨true, l1, l2, l3, l4, l5, l6, l7, l8, l9, l10, true, l12, l13, true, l15, rfl, rfl, HF⟩
     ·
      obtain rfl : l15 = false := (AnyOrder.mem_ready hi).2.1
      obtain rfl : l13 = true := AnyOrder.dep (q := 0) hi rfl rfl rfl
      obtain rfl : l14 = true := AnyOrder.dep (q := 1) hi rfl rfl rfl
      obtain rfl : l0 = true := AnyOrder.dep (q := 2) hi rfl rfl rfl
      obtain rfl : l1 = true := AnyOrder.dep (q := 3) hi rfl rfl rfl
      obtain rfl : l2 = true := AnyOrder.dep (q := 4) hi rfl rfl rfl
      obtain rfl : l3 = true := AnyOrder.dep (q := 5) hi rfl rfl rfl
      obtain rfl : l4 = true := AnyOrder.dep (q := 6) hi rfl rfl rfl
      obtain rfl : l5 = true := AnyOrder.dep (q := 7) hi rfl rfl rfl
      obtain rfl : l6 = true := AnyOrder.dep (q := 8) hi rfl rfl rfl
      obtain rfl : l7 = true := AnyOrder.dep (q := 9) hi rfl rfl rfl
      obtain rfl : l8 = true := AnyOrder.dep (q := 10) hi rfl rfl rfl
      obtain rfl : l9 = true := AnyOrder.dep (q := 11) hi rfl rfl rfl
      obtain rfl : l10 = true := AnyOrder.dep (q := 12) hi rfl rfl rfl
      obtain rfl : l11 = true := AnyOrder.dep (q := 13) hi rfl rfl rfl
      obtain rfl : l12 = true := AnyOrder.dep (q := 14) hi rfl rfl rfl
      clear hi
      simp only [sel_true, selv_true] at hK ⊢
      refine AnyOrder.wpOp_go rfl (by rfl) ?_
      go_wp2_with fail
      exact ⟨true, true, true, true, true, true, true, true, true, true, true, true, true, true, true, true, rfl, rfl, HF⟩
    case last =>
     rintro L ac V ⟨l0, l1, l2, l3, l4, l5, l6, l7, l8, l9, l10, l11, l12, l13, l14, l15, rfl, rfl, HF⟩ hr
     have hall := AnyOrder.all_listed rfl (by kernel_rfl) hr
     clear hr
     obtain rfl : l0 = true := hall 0 (by decide)
     obtain rfl : l1 = true := hall 1 (by decide)
     obtain rfl : l2 = true := hall 2 (by decide)
     obtain rfl : l3 = true := hall 3 (by decide)
     obtain rfl : l4 = true := hall 4 (by decide)
     obtain rfl : l5 = true := hall 5 (by decide)
     obtain rfl : l6 = true := hall 6 (by decide)
     obtain rfl : l7 = true := hall 7 (by decide)
     obtain rfl : l8 = true := hall 8 (by decide)
     obtain rfl : l9 = true := hall 9 (by decide)
     obtain rfl : l10 = true := hall 10 (by decide)
     obtain rfl : l11 = true := hall 11 (by decide)
     obtain rfl : l12 = true := hall 12 (by decide)
     obtain rfl : l13 = true := hall 13 (by decide)
     obtain rfl : l14 = true := hall 14 (by decide)
     obtain rfl : l15 = true := hall 15 (by decide)
     clear hall
     simp only [sel_true, selv_true]
     go_wp2
     refine bodyPost_ret (results_tmp2 rfl _ _ _) rfl ?_
     exact ⟨by rw [HR.out]; rfl, HF.out.below⟩
theorem eql_func_nil (W : World) : (binOp .eql 74 cmpV .nilFunc).run Tryz.prog W = .ok (.bool false) W := by
 have h : ∀ d : Nat, (Op.equalIn (d + 1) 74 cmpV .nilFunc).run Tryz.prog W = .ok false W := fun d => by
  simp [Op.equalIn, run_underlying Tryz.underlying74]
 simp only [binOp]
 simp [Op.equal, Op.maxDepth, h 9999]
set_option maxRecDepth 100000 in
theorem zero_call (mp : Nat) (sl : Value) (w : World) (hmp : w.heap[mp]? = some (.cells #[cmpV, sl] 142 (0, 0))) : Calls Tryz.prog 101 #[.pointer (some ⟨mp, 0, none⟩)] w fun e w' => e = .returned (.bool false) ∧ w' = w := by
 have c0 : w.cell? ⟨mp, 0, none⟩ = _ := (blk_cell hmp 0).trans rfl
 have hq := eql_func_nil
 clear hmp
 go_enter Tryz.func101, Tryz.ntmps101
 go_wp2
 go_ret
 exact ⟨rfl, rfl⟩
structure Fnd (W0 : World) (mp bm B : Nat) (A : Option Addr) (n c : Nat) (ks : List Dot) (vs : List Value) (d : Dot) (V : World) : Prop where
 below : Below W0.heap.size W0 V
 map : W0.heap[mp]? = some (.cells #[cmpV, .slice A n c] 142 (0, 0))
 box : W0.heap[bm]? = some (.cells #[.pointer (some ⟨mp, 0, none⟩)] 96 (0, 0))
 key : W0.heap[B]? = some (.cells #[.int .i64 d.f0, .int .i64 d.f1] 33 (0, 0))
 ents : Ents W0 A n ks vs
theorem Fnd.more {W0 V V' : World} {mp bm B : Nat} {A : Option Addr} {n c : Nat} {ks : List Dot} {vs : List Value} {d : Dot} (h : Fnd W0 mp bm B A n c ks vs d V) (hb : Below V.heap.size V V') : Fnd W0 mp bm B A n c ks vs d V' := ⟨below_more h.below hb, h.map, h.box, h.key, h.ents⟩
def findInv (W0 : World) (mp bm B : Nat) (A : Option Addr) (n c : Nat) (ks : List Dot) (vs : List Value) (d : Dot) (L : Array Bool) (ac : Act) (V : World) : Prop := ∃ (l0 l1 l2 l3 l4 l5 l6 l7 l8 l9 l10 : Bool), L = #[l0, l1, l2, l3, l4, l5, l6, l7, l8, l9, l10] ∧ ac = { tmps := #[.pointer (some ⟨mp, 0, none⟩), vDot d, .pointer (some ⟨bm, 0, none⟩), .pointer (some ⟨B, 0, none⟩), selv l9 (.int .i64 (posK ks d)) (.int .i64 0), selv l10 (.bool (hasK ks d)) (.bool false), .pointer (some ⟨mp, 0, none⟩), .bool false, sel l0 (.pointer (some ⟨mp, 0, none⟩)), sel l1 (.pointer (some ⟨mp, 0, none⟩)), sel l2 (.pointer (some ⟨mp, 1, none⟩)), sel l3 (.slice A n c), sel l4 (vDot d), sel l5 (.func (.func 110) #[] #[.pointer (some ⟨bm, 0, none⟩)]), sel l6 (.tuple #[.int .i64 (posK ks d), .bool (hasK ks d)]), sel l7 (.int .i64 (posK ks d)), sel l8 (.bool (hasK ks d))], defers := [] } ∧ Aside0 (Fnd W0 mp bm B A n c ks vs d V)
set_option maxHeartbeats 1000000 in
set_option maxRecDepth 100000 in
theorem find_call (mp : Nat) (ks : List Dot) (vs : List Value) (A : Option Addr) (n c : Nat) (d : Dot) (w : World) (hs : incB ks = true) (he : Ents w A n ks vs) (hmp : w.heap[mp]? = some (.cells #[cmpV, .slice A n c] 142 (0, 0))) :
  Calls Tryz.prog 100 #[.pointer (some ⟨mp, 0, none⟩), vDot d] w fun e w' => e = .returned (.tuple #[.int .i64 (posK ks d), .bool (hasK ks d)]) ∧ Below w.heap.size w w' := by
 have HS := Aside0.mk hs
 have HF0 : Aside0 (Fnd ((w.alloc (.cells #[.pointer (some ⟨mp, 0, none⟩)] 96 (0, 0))).alloc (.cells #[.int .i64 d.f0, .int .i64 d.f1] 33 (0, 0))) mp w.heap.size (w.heap.size + 1) A n c ks vs d ((w.alloc (.cells #[.pointer (some ⟨mp, 0, none⟩)] 96 (0, 0))).alloc (.cells #[.int .i64 d.f0, .int .i64 d.f1] 33 (0, 0)))) := ⟨⟨Below.refl _ _, blk_alloc (blk_alloc hmp _) _, blk_alloc (blk_new _ _) _, by have := blk_new (w.alloc (.cells #[.pointer (some ⟨mp, 0, none⟩)] 96 (0, 0))) (.cells #[.int .i64 d.f0, .int .i64 d.f1] 33 (0, 0)); rwa [World.size_alloc] at this, he.below (((Gr.alloc w _).trans (Gr.alloc _ _)).below)⟩⟩
 have HW := Aside0.mk ((Gr.alloc w (.cells #[.pointer (some ⟨mp, 0, none⟩)] 96 (0, 0))).trans (Gr.alloc _ (.cells #[.int .i64 d.f0, .int .i64 d.f1] 33 (0, 0)))).below
 clear hs he hmp
 go_enter Tryz.func100, Tryz.ntmps100
 go_wp2_with fail
 refine (zero_call mp _ _ HF0.out.map).mono ?_
 rintro e w1 ⟨rfl, rfl⟩
 go_wp2_with fail
 refine AnyOrder.wp_region (by kernel_rfl) (findInv ((w.alloc (.cells #[.pointer (some ⟨mp, 0, none⟩)] 96 (0, 0))).alloc (.cells #[.int .i64 d.f0, .int .i64 d.f1] 33 (0, 0))) mp w.heap.size (w.heap.size + 1) A n c ks vs d) ?start ?step ?last
 case start => exact ⟨false, false, false, false, false, false, false, false, false, false, false, rfl, rfl, ⟨HF0.out.more (Gr.drew _).below⟩⟩
 case step =>
  rintro L ac V i ⟨l0, l1, l2, l3, l4, l5, l6, l7, l8, l9, l10, rfl, rfl, HF⟩ hi K hK
  have h1 : i = 0 ∨ i = 1 ∨ i = 2 ∨ i = 3 ∨ i = 4 ∨ i = 5 ∨ i = 6 ∨ i = 7 ∨ i = 8 ∨ i = 9 ∨ i = 10 := by
   have h1 := (AnyOrder.mem_ready hi).1
   clear hi hK
   change i < 11 at h1
   omega
  rcases h1 with rfl | rfl | rfl | rfl | rfl | rfl | rfl | rfl | rfl | rfl | rfl
  ·
   obtain rfl : l0 = false := (AnyOrder.mem_ready hi).2.1
   clear hi
   have cb0 : V.cell? ⟨w.heap.size, 0, none⟩ = _ := (blk_cell (blk_keep HF.out.box HF.out.below) 0).trans rfl
   refine AnyOrder.wpOp_go rfl (by rfl) ?_
   go_wp2_with fail
   exact ⟨true, l1, l2, l3, l4, l5, l6, l7, l8, l9, l10, rfl, rfl, HF⟩
  ·
   obtain rfl : l1 = false := (AnyOrder.mem_ready hi).2.1
   obtain rfl : l0 = true := AnyOrder.dep (q := 0) hi rfl rfl rfl
   clear hi
   simp only [sel_true, selv_true] at hK ⊢
   refine AnyOrder.wpOp_go rfl (by rfl) ?_
   go_wp2_with fail
   exact ⟨true, true, l2, l3, l4, l5, l6, l7, l8, l9, l10, rfl, rfl, HF⟩
  ·
   obtain rfl : l2 = false := (AnyOrder.mem_ready hi).2.1
   obtain rfl : l1 = true := AnyOrder.dep (q := 0) hi rfl rfl rfl
   clear hi
   simp only [sel_true, selv_true] at hK ⊢
   refine AnyOrder.wpOp_go rfl (by rfl) ?_
   go_wp2_with fail
   exact ⟨l0, true, true, l3, l4, l5, l6, l7, l8, l9, l10, rfl, rfl, HF⟩
  ·
   obtain rfl : l3 = false := (AnyOrder.mem_ready hi).2.1
   obtain rfl : l2 = true := AnyOrder.dep (q := 0) hi rfl rfl rfl
   clear hi
   simp only [sel_true, selv_true] at hK ⊢
   have cm1 : V.cell? ⟨mp, 1, none⟩ = _ := (blk_cell (blk_keep HF.out.map HF.out.below) 1).trans rfl
   refine AnyOrder.wpOp_go rfl (by rfl) ?_
   go_wp2_with fail
   exact ⟨l0, l1, true, true, l4, l5, l6, l7, l8, l9, l10, rfl, rfl, HF⟩
  ·
   obtain rfl : l4 = false := (AnyOrder.mem_ready hi).2.1
   clear hi
   have ck0 : V.cell? ⟨w.heap.size + 1, 0, none⟩ = _ := (blk_cell (blk_keep HF.out.key HF.out.below) 0).trans rfl
   have ck1 : V.cell? ⟨w.heap.size + 1, 1, none⟩ = _ := (blk_cell (blk_keep HF.out.key HF.out.below) 1).trans rfl
   refine AnyOrder.wpOp_go rfl (by rfl) ?_
   go_wp2_with fail
   exact ⟨l0, l1, l2, l3, true, l5, l6, l7, l8, l9, l10, rfl, rfl, HF⟩
  ·
   obtain rfl : l5 = false := (AnyOrder.mem_ready hi).2.1
   clear hi
   refine AnyOrder.wpOp_go rfl (by rfl) ?_
   go_wp2_with fail
   exact ⟨l0, l1, l2, l3, l4, true, l6, l7, l8, l9, l10, rfl, rfl, HF⟩
  ·
   obtain rfl : l6 = false := (AnyOrder.mem_ready hi).2.1
   obtain rfl : l3 = true := AnyOrder.dep (q := 0) hi rfl rfl rfl
   obtain rfl : l4 = true := AnyOrder.dep (q := 1) hi rfl rfl rfl
   obtain rfl : l5 = true := AnyOrder.dep (q := 2) hi rfl rfl rfl
   clear hi
   simp only [sel_true, selv_true] at hK ⊢
   refine AnyOrder.wpOp_go rfl (by rfl) ?_
   go_wp2_with fail
   refine (bsearch_call ks vs A n c d w.heap.size mp _ V HS.out (HF.out.ents.below HF.out.below) (blk_keep HF.out.box HF.out.below) (blk_keep HF.out.map HF.out.below)).mono ?_
   rintro e V' ⟨rfl, hb⟩
   exact hK _ _ ⟨l0, l1, l2, true, true, true, true, l7, l8, l9, l10, rfl, rfl, ⟨HF.out.more hb⟩⟩
  ·
   obtain rfl : l7 = false := (AnyOrder.mem_ready hi).2.1
   obtain rfl : l6 = true := AnyOrder.dep (q := 0) hi rfl rfl rfl
   clear hi
   simp only [sel_true, selv_true] at hK ⊢
   refine AnyOrder.wpOp_go rfl (by rfl) ?_
   go_wp2_with fail
   exact ⟨l0, l1, l2, l3, l4, l5, true, true, l8, l9, l10, rfl, rfl, HF⟩
  ·
   obtain rfl : l8 = false := (AnyOrder.mem_ready hi).2.1
   obtain rfl : l6 = true := AnyOrder.dep (q := 0) hi rfl rfl rfl
   clear hi
   simp only [sel_true, selv_true] at hK ⊢
   refine AnyOrder.wpOp_go rfl (by rfl) ?_
   go_wp2_with fail
   exact ⟨l0, l1, l2, l3, l4, l5, true, l7, true, l9, l10, rfl, rfl, HF⟩
  ·
   obtain rfl : l9 = false := (AnyOrder.mem_ready hi).2.1
   obtain rfl : l7 = true := AnyOrder.dep (q := 0) hi rfl rfl rfl
   obtain rfl : l6 = true := AnyOrder.dep (q := 1) hi rfl rfl rfl
   obtain rfl : l0 = true := AnyOrder.dep (q := 2) hi rfl rfl rfl
   obtain rfl : l1 = true := AnyOrder.dep (q := 3) hi rfl rfl rfl
   obtain rfl : l2 = true := AnyOrder.dep (q := 4) hi rfl rfl rfl
   obtain rfl : l3 = true := AnyOrder.dep (q := 5) hi rfl rfl rfl
   obtain rfl : l4 = true := AnyOrder.dep (q := 6) hi rfl rfl rfl
   obtain rfl : l5 = true := AnyOrder.dep (q := 7) hi rfl rfl rfl
   obtain rfl : l8 = true := AnyOrder.dep (q := 10) hi rfl rfl rfl
   clear hi
   simp only [sel_true, selv_true] at hK ⊢
   refine AnyOrder.wpOp_go rfl (by rfl) ?_
   go_wp2_with fail
   exact ⟨true, true, true, true, true, true, true, true, true, true, l10, rfl, rfl, HF⟩
  ·
   obtain rfl : l10 = false := (AnyOrder.mem_ready hi).2.1
   obtain rfl : l8 = true := AnyOrder.dep (q := 0) hi rfl rfl rfl
   obtain rfl : l9 = true := AnyOrder.dep (q := 1) hi rfl rfl rfl
   obtain rfl : l0 = true := AnyOrder.dep (q := 2) hi rfl rfl rfl
   obtain rfl : l1 = true := AnyOrder.dep (q := 3) hi rfl rfl rfl
   obtain rfl : l2 = true := AnyOrder.dep (q := 4) hi rfl rfl rfl
   obtain rfl : l3 = true := AnyOrder.dep (q := 5) hi rfl rfl rfl
   obtain rfl : l4 = true := AnyOrder.dep (q := 6) hi rfl rfl rfl
   obtain rfl : l5 = true := AnyOrder.dep (q := 7) hi rfl rfl rfl
   obtain rfl : l6 = true := AnyOrder.dep (q := 8) hi rfl rfl rfl
   obtain rfl : l7 = true := AnyOrder.dep (q := 9) hi rfl rfl rfl
   clear hi
   simp only [sel_true, selv_true] at hK ⊢
   refine AnyOrder.wpOp_go rfl (by rfl) ?_
   go_wp2_with fail
   exact ⟨true, true, true, true, true, true, true, true, true, true, true, rfl, rfl, HF⟩
 case last =>
  rintro L ac V ⟨l0, l1, l2, l3, l4, l5, l6, l7, l8, l9, l10, rfl, rfl, HF⟩ hr
  have hall := AnyOrder.all_listed rfl (by kernel_rfl) hr
  clear hr
  obtain rfl : l0 = true := hall 0 (by decide)
  obtain rfl : l1 = true := hall 1 (by decide)
  obtain rfl : l2 = true := hall 2 (by decide)
  obtain rfl : l3 = true := hall 3 (by decide)
  obtain rfl : l4 = true := hall 4 (by decide)
  obtain rfl : l5 = true := hall 5 (by decide)
  obtain rfl : l6 = true := hall 6 (by decide)
  obtain rfl : l7 = true := hall 7 (by decide)
  obtain rfl : l8 = true := hall 8 (by decide)
  obtain rfl : l9 = true := hall 9 (by decide)
  obtain rfl : l10 = true := hall 10 (by decide)
  clear hall
  simp only [sel_true, selv_true]
  go_wp2
  refine bodyPost_ret (results_tmp2 rfl _ _ _) rfl ?_
  exact ⟨rfl, below_more HW.out HF.out.below⟩
def getV (ks : List Dot) (vs : List Value) (d : Dot) : Value := if hasK ks d = true then (vs[posK ks d]?).getD undef else .slice none 0 0
theorem hasK_lt {ks : List Dot} {d : Dot} (h : hasK ks d = true) : posK ks d < ks.length := by
 unfold hasK at h
 exact (List.getElem?_eq_some_iff.1 (of_decide_eq_true h)).1
set_option maxHeartbeats 1000000 in
set_option maxRecDepth 100000 in
theorem get_call (mp : Nat) (ks : List Dot) (vs : List Value) (A : Option Addr) (n c : Nat) (d : Dot) (w : World) (hs : incB ks = true) (he : Ents w A n ks vs) (hmp : w.heap[mp]? = some (.cells #[cmpV, .slice A n c] 142 (0, 0))) :
  Calls Tryz.prog 80 #[.pointer (some ⟨mp, 0, none⟩), vDot d] w fun e w' => e = .returned (.tuple #[getV ks vs d, .bool (hasK ks d)]) ∧ Below w.heap.size w w' := by
 have HS := Aside0.mk hs
 have hb1 := (Gr.alloc w (.cells #[.int .i64 d.f0, .int .i64 d.f1] 33 (0, 0))).below
 have HE := Aside0.mk (he.below hb1)
 have HM := Aside0.mk (blk_keep hmp hb1)
 have HK : Aside0 ((w.alloc (.cells #[.int .i64 d.f0, .int .i64 d.f1] 33 (0, 0))).heap[w.heap.size]? = some (.cells #[.int .i64 d.f0, .int .i64 d.f1] 33 (0, 0))) := ⟨blk_new _ _⟩
 have HB := Aside0.mk hb1
 have hc0 : (w.alloc (.cells #[.int .i64 d.f0, .int .i64 d.f1] 33 (0, 0))).cell? ⟨w.heap.size, 0, none⟩ = _ := (blk_cell HK.out 0).trans rfl
 have hc1 : (w.alloc (.cells #[.int .i64 d.f0, .int .i64 d.f1] 33 (0, 0))).cell? ⟨w.heap.size, 1, none⟩ = _ := (blk_cell HK.out 1).trans rfl
 clear hs he hmp hb1
 obtain ⟨q, HQ⟩ : ∃ q, Aside0 (posK ks d = q) := ⟨_, ⟨rfl⟩⟩
 obtain ⟨hf, HHF⟩ : ∃ hf, Aside0 (hasK ks d = hf) := ⟨_, ⟨rfl⟩⟩
 obtain ⟨rv, HRV⟩ : ∃ rv, Aside0 (getV ks vs d = rv) := ⟨_, ⟨rfl⟩⟩
 rw [HHF.out, HRV.out]
 go_enter Tryz.func80, Tryz.ntmps80
 go_wp2_with fail
 refine (find_call mp ks vs A n c d _ HS.out HE.out HM.out).mono ?_
 rintro e w1 ⟨rfl, hb⟩
 have HE := Aside0.mk (HE.out.below hb)
 have HM := Aside0.mk (blk_keep HM.out hb)
 have HB := Aside0.mk (below_more HB.out hb)
 rw [HQ.out, HHF.out]
 clear hc0 hc1 hb
 cases hf with
 | false =>
  go_wp2
  refine bodyPost_ret (results_tmp2 rfl _ _ _) rfl ?_
  exact ⟨by rw [← HRV.out, getV, HHF.out]; rfl, HB.out⟩
 | true =>
  have hqn : q < n := by have := hasK_lt HHF.out; rw [HQ.out, HE.out.kl] at this; exact this
  obtain ⟨k, v, eb, hk, hvk, hv1, rfl, c0, c1, c2⟩ := HE.out.get hqn
  have hm1 : w1.cell? ⟨mp, 1, none⟩ = _ := (blk_cell HM.out 1).trans rfl
  have HV : Aside0 (getV ks vs d = v) := ⟨by rw [getV, HHF.out, HQ.out, hvk]; rfl⟩
  clear hk hvk
  go_wp2
  refine bodyPost_ret (results_tmp2 rfl _ _ _) rfl ?_
  exact ⟨by rw [← HRV.out, HV.out]; rfl, HB.out⟩
end Go.Proofs.YtdheokololpnbaaGreatDoor.PWalk
end
section
namespace Go.Proofs.YtdheokololpnbaaGreatDoor.PWalk
open Go.RowKit Go.Proofs.YtdheokololpnbaaGreatDoorW.PrintWords Go.Proofs.YtdheokololpnbaaGreatDoorW.PrintLast Go.Proofs.YtdheokololpnbaaGreatDoorW.PrintMore
set_option linter.unusedVariables false
set_option linter.unusedSimpArgs false
open Go.Shelf
attribute [local go_sem] Oper.semAt_some
theorem run_copy_rowK {P : Program} (w : World) (dT sT ty elem : TypeId) (k g o dLen dCap : Nat) (a : Addr) (sLen sCap : Nat) (cur : Array Value) (t : TypeId) (cs : List Value)
  (hu : P.underlying dT = some (.slice elem)) (hs : (P.info? elem).map (·.size) = some k)
  (hg : w.heap[g]? = some (.cells cur t (0, 0))) (hn : cs.length = Nat.min sLen dLen * k)
  (hsrc : ∀ j v, cs[j]? = some v → w.cell? (a.add j) = some v) (hfit : o + cs.length ≤ cur.size) (h1 : ∀ v ∈ cs, v.oneCell' = true) :
  (Builtin.copy_ #[dT, sT] ty #[.slice (some ⟨g, o, none⟩) dLen dCap, .slice (some a) sLen sCap]).run P w =
   .ok (goInt (Nat.min sLen dLen)) (w.setRow g (cur.toList.take o ++ cs ++ cur.toList.drop (o + cs.length)).toArray) := by
 have hl := run_loadCells_list (P := P) w a cs hsrc
 have hst := run_storeCells_at P g o t cs 0 cur w hg (by simpa using hfit) h1
 cases hq : P.info? elem with
 | none => simp [hq] at hs
 | some i =>
  have hi : i.size = k := by simpa [hq] using hs
  simp [Builtin.copy_, run_underlying hu, Builtin.lenOf, Builtin.firstCells, sizeOf, typeInfo, hq, hi, ← hn, hl, hst]
abbrev entCells (k : Dot) (u : Value) : List Value := [.int .i64 k.f0, .int .i64 k.f1, u]
theorem infoE : (Tryz.prog.info? 145).map (fun i => (i.zero, i.size, i.bytes)) = some (some (.agg #[(.int .i64 0), (.int .i64 0), (.slice none 0 0)]), 3, 40) := by kernel_rfl
theorem entCells_at {w : World} {g : Nat} {k : Dot} {u : Value} (h : w.heap[g]? = some (.cells #[.int .i64 k.f0, .int .i64 k.f1, u] 145 (0, 0))) (j : Nat) (v : Value) (hj : (entCells k u)[j]? = some v) : w.cell? ((⟨g, 0, none⟩ : Addr).add j) = some v := by
 rw [show (⟨g, 0, none⟩ : Addr).add j = ⟨g, j, none⟩ from by unfold Addr.add; split <;> simp_all]
 rw [blk_cell h, ← Array.getElem?_toList]
 exact hj
theorem entCells_one {k : Dot} {u : Value} (h : u.oneCell' = true) : ∀ v ∈ entCells k u, v.oneCell' = true := by
 intro v hv
 simp at hv
 rcases hv with rfl | rfl | rfl
 ·
  rfl
 ·
  rfl
 ·
  exact h
set_option maxHeartbeats 1000000 in
set_option maxRecDepth 100000 in
theorem insert_end (base : Nat) (A : Option Addr) (n cap : Nat) (cs : List Value) (k : Dot) (u : Value) (gE : Nat) (w : World) (ho : w.ownsRow base 145 3 (.slice A n cap) n cs)
  (hE : w.heap[gE]? = some (.cells #[.int .i64 k.f0, .int .i64 k.f1, u] 145 (0, 0))) (hu1 : u.oneCell' = true) (hn : n ≤ 1000000) (hb : base ≤ w.heap.size) :
  Calls Tryz.prog 102 #[.slice A n cap, .int .i64 n, .slice (some ⟨gE, 0, none⟩) 1 1] w fun e w' => ∃ v', e = .returned v' ∧ w'.ownsRow base 145 3 v' (n + 1) (cs ++ entCells k u) ∧ w.grownBy w' (Value.slice A n cap).ownBlock := by
 obtain ⟨i0, hi, hz0, hz1, hz2⟩ := info_parts infoE
 have HO := Aside0.mk ho
 have HE := Aside0.mk (entCells_at hE)
 have H1 := Aside0.mk (entCells_one (k := k) hu1)
 have hz := Tryz.zeroValue145
 have HN := Aside0.mk hn
 clear hE hu1
 have hcap : n ≤ cap := by
  rcases ho.2 with ⟨h, _⟩ | ⟨g, c, cur, h, _, _, hl, _⟩
  ·
   cases h; exact Nat.le_refl _
  ·
   cases h; exact hl
 clear ho
 cases A with
 | none =>
  go_enter Tryz.func102, Tryz.ntmps102
  go_wp2_with (at_builtin; go_loud (refine wpList_append_own _ rfl (.tmp 23) (.tmp 24) 140 rfl base 145 i0 _ 3 40 Tryz.underlying140 hi hz0 hz1 hz2 rfl (by decide) _ n cs rfl HO.out ⟨gE, 0, none⟩ 1 1 (entCells k u) rfl rfl HE.out H1.out (by unfold maxLen; have := HN.out; omega) (by have := HN.out; omega) hb ?_); intro v' w' ho2 hg2 hn2)
  go_ret
  exact ⟨_, rfl, ho2, hg2⟩
 | some ad =>
  go_enter Tryz.func102, Tryz.ntmps102
  go_wp2_with (at_builtin; go_loud (refine wpList_append_own _ rfl (.tmp 23) (.tmp 24) 140 rfl base 145 i0 _ 3 40 Tryz.underlying140 hi hz0 hz1 hz2 rfl (by decide) _ n cs rfl HO.out ⟨gE, 0, none⟩ 1 1 (entCells k u) rfl rfl HE.out H1.out (by unfold maxLen; have := HN.out; omega) (by have := HN.out; omega) hb ?_); intro v' w' ho2 hg2 hn2)
  all_goals
   go_ret
   exact ⟨_, rfl, ho2, hg2⟩
section
variable {P : Program} {ops : Array Oper} {rest : List Oper} {o : Oper} {a : Act} {Q : Exit → Act → World → Prop}
theorem wp_copy_eq {K : Act → World → Prop} (d s : Operand) (t : TypeId) (ho : o.op = .call { callee := .builtin .copy, args := #[d, s], argTypes := #[t, t] }) {v1 v2 v' : Value} {w w' : World}
  (hd : a.eval d = v1) (hs : a.eval s = v2) (hrun : (Builtin.copy_ #[t, t] o.type #[v1, v2]).run P w = .ok v' w') (h : K (a.put o.dst v') w') : o.wp P a w K Q := by
 unfold Oper.wp
 simp [execOp, ho, resolve, invoke, builtin, hd, hs, hrun, Result.andThen]
 exact h
theorem wpList_append_eq2 (hgd : o.guard = none) (s x : Operand) (t t' : TypeId) (ho : o.op = .call { callee := .builtin .append, args := #[s, x], argTypes := #[t, t'] }) {v1 v2 v' : Value} {w w' : World}
  (hs : a.eval s = v1) (hx : a.eval x = v2) (hrun : (Builtin.append_ #[t, t'] o.type #[v1, v2]).run P w = .ok v' w') (h : wpList P ops Q rest (a.put o.dst v') w') : wpList P ops Q (o :: rest) a w := by
 refine wpList_plain hgd fun K hK => ?_
 unfold Oper.wp
 simp [execOp, ho, resolve, invoke, builtin, hs, hx, hrun, Result.andThen]
 exact hK _ _ h
end
theorem add_lit (g o j : Nat) : (⟨g, o, none⟩ : Addr).add j = ⟨g, o + j, none⟩ := by unfold Addr.add; split <;> simp_all
def shiftInv (w W1 : World) (g gE n cap i j : Nat) (z10 z11 z12 z13 z14 z15 z16 z17 z18 z19 z20 z21 z22 z23 z24 z25 z26 z27 z28 z29 z30 z31 z32 z33 z34 z35 z36 z37 z38 z39 z40 z41 z42 z43 z44 z45 z46 z47 z48 z49 z50 z51 z52 z53 z54 z55 z56 z57 z58 z59 z60 z61 z62 z63 z64 z65 z66 z67 z68 : Value) (L : Array Bool) (ac : Act) (V : World) : Prop := ∃ (l0 l1 l2 l3 l4 l5 l6 l7 l8 : Bool), L = #[l0, l1, l2, l3, l4, l5, l6, l7, l8] ∧ ac = { tmps := #[.slice (some ⟨g, 0, none⟩) (n + 1) cap, .int .i64 i, .slice (some ⟨gE, 0, none⟩) 1 1, undef, undef, undef, .slice none 0 0, .int .i64 1, .int .i64 n, undef, z10, z11, z12, z13, z14, z15, z16, z17, z18, z19, z20, z21, z22, z23, z24, z25, z26, z27, z28, z29, z30, z31, z32, z33, z34, z35, z36, z37, z38, z39, z40, z41, z42, z43, z44, z45, z46, z47, z48, z49, z50, z51, z52, z53, z54, z55, z56, z57, z58, z59, z60, z61, z62, z63, z64, z65, z66, z67, z68, sel l0 (.slice (some ⟨g, 0, none⟩) (n + 1) cap), sel l1 (.int .i64 i), sel l2 (.int .i64 1), sel l3 (.int .i64 j), sel l4 (.slice (some ⟨g, j * 3, none⟩) (n + 1 - j) (cap - j)), sel l5 (.slice (some ⟨g, 0, none⟩) (n + 1) cap), sel l6 (.int .i64 i), sel l7 (.slice (some ⟨g, i * 3, none⟩) (n + 1 - i) (cap - i)), sel l8 (goInt ((n - i : Nat) : Int)), undef, undef, undef, undef, undef, undef, undef, undef, undef, undef, undef, undef, undef, undef, undef, undef, undef], defers := [] } ∧ Aside0 ((l8 = true → V = W1) ∧ (l8 = false → V = w.drew))
set_option maxHeartbeats 1000000 in
set_option maxRecDepth 100000 in
theorem insert_shift (base g n cap i : Nat) (cs : List Value) (k : Dot) (u : Value) (gE : Nat) (w : World) (ho : w.ownsRow base 145 3 (.slice (some ⟨g, 0, none⟩) n cap) n cs)
  (hE : w.heap[gE]? = some (.cells #[.int .i64 k.f0, .int .i64 k.f1, u] 145 (0, 0))) (hne : gE ≠ g) (hu1 : u.oneCell' = true) (hcs1 : ∀ v ∈ cs, v.oneCell' = true) (hn : n ≤ 1000000) (hi : i < n) (hroom : n + 1 ≤ cap) :
  Calls Tryz.prog 102 #[.slice (some ⟨g, 0, none⟩) n cap, .int .i64 i, .slice (some ⟨gE, 0, none⟩) 1 1] w fun e w' => ∃ v', e = .returned v' ∧ w'.ownsRow base 145 3 v' (n + 1) (cs.take (i * 3) ++ entCells k u ++ cs.drop (i * 3)) ∧ w.grownBy w' (some g) := by
 obtain ⟨hcl, ho⟩ := ho
 rcases ho with ⟨h, _⟩ | ⟨g', cap', cur, he, hbg, hcur, hle, hmx, hsz, htk⟩
 ·
  cases h
 cases he
 have hsize : (Tryz.prog.info? 145).map (·.size) = some 3 := by
  obtain ⟨i0, hi0, _, h1, _⟩ := info_parts infoE
  rw [hi0]; simp [h1]
 have hshE : w.shape? gE = some (145, 3) := by unfold World.shape?; rw [hE]; rfl
 have hshG : w.shape? g = some (145, cur.size) := by unfold World.shape?; rw [hcur]
 have hfE : ∀ j, w.frozen? ⟨gE, j, none⟩ = false := fun j => blk_frozen hE j
 have hov : ∀ off lb cb, (callFunc 111 #[.slice (some ⟨gE, 0, none⟩) 1 1, .slice (some ⟨g, off, none⟩) lb cb]).run Tryz.prog w = .ok (.value (.bool false)) w := fun off lb cb => by
  rw [run_callFunc_extern Tryz.func111 (by kernel_rfl) (by kernel_rfl) (by kernel_rfl) (e := Extern.SlicesOverlaps.overlaps #[140, 140] #[4]) (by kernel_rfl),
   Lib.run_overlaps_apart w 140 4 145 Tryz.underlying140 3 Tryz.sizeOf145 ⟨gE, 0, none⟩ ⟨g, off, none⟩ 1 1 lb cb hne 145 145 3 cur.size hshE hshG (by omega) (hfE 0) (hfE 3)]
  rfl
 have hcell : ∀ j v, cs[j]? = some v → w.cell? ⟨g, j, none⟩ = some v := fun j v hj => by
  rw [blk_cell hcur, ← Array.getElem?_toList]
  rw [← htk, List.getElem?_take] at hj
  split at hj
  ·
   exact hj
  ·
   cases hj
 have hcul : cur.toList.length = cap * 3 := by rw [Array.length_toList]; exact hsz
 have hdl : (cs.drop (i * 3)).length = (n - i) * 3 := by rw [List.length_drop, hcl]; omega
 have hdl2 : (cs.take (i * 3)).length = i * 3 := by rw [List.length_take, hcl]; omega
 obtain ⟨j, hj⟩ : ∃ j, i + 1 = j := ⟨_, rfl⟩
 -- the first copy: what stands from i on goes one place up
 have hcp1 := run_copy_rowK (P := Tryz.prog) w.drew 140 140 3 145 3 g (j * 3) (n + 1 - j) (cap - j) ⟨g, i * 3, none⟩ (n + 1 - i) (cap - i) cur 145 (cs.drop (i * 3)) Tryz.underlying140 hsize hcur
  (by rw [hdl]; congr 1; simp only [Nat.min_def]; split <;> omega)
  (fun j v hj => by rw [add_lit]; exact hcell _ v (by rwa [List.getElem?_drop] at hj))
  (by
   rw [hdl, hsz]; exact (show j * 3 + (n - i) * 3 ≤ cap * 3 by omega)) (fun v hv => hcs1 v (List.mem_of_mem_drop hv))
 have hmin1 : Nat.min (n + 1 - i) (n + 1 - j) = n - i := by simp only [Nat.min_def]; split <;> omega
 rw [hmin1] at hcp1
 obtain ⟨cur1, hc1⟩ : ∃ cur1, (cur.toList.take (j * 3) ++ cs.drop (i * 3) ++ cur.toList.drop (j * 3 + (cs.drop (i * 3)).length)).toArray = cur1 := ⟨_, rfl⟩
 rw [hc1] at hcp1
 have hcl1 : cur1.toList.length = cap * 3 := by
  rw [← hc1]
  simp only [List.length_append, List.length_take, List.length_drop, hcul, hcl]
  omega
 have h1a : cur1.toList.take (i * 3) = cs.take (i * 3) := by
  rw [← hc1, ← htk]
  simp only []
  rw [List.append_assoc, List.take_append_of_le_length (by rw [List.length_take, hcul]; omega), List.take_take, List.take_take]
  congr 1; omega
 have h1b : (cur1.toList.drop (i * 3 + 3)).take ((n - i) * 3) = cs.drop (i * 3) := by
  rw [← hc1]
  simp only []
  rw [List.append_assoc, List.drop_append_of_le_length (by rw [List.length_take, hcul]; omega), List.drop_of_length_le (by rw [List.length_take, hcul]; omega), List.nil_append, List.take_left' hdl]
 obtain ⟨W1, hW1⟩ : ∃ W1, w.drew.setRow g cur1 = W1 := ⟨_, rfl⟩
 rw [hW1] at hcp1
 have hcur1 : W1.heap[g]? = some (.cells cur1 145 (0, 0)) := by rw [← hW1]; exact setRow_at (show w.drew.heap[g]? = _ from hcur) cur1
 have hE1 : W1.heap[gE]? = some (.cells #[.int .i64 k.f0, .int .i64 k.f1, u] 145 (0, 0)) := by rw [← hW1]; exact (setRow_other w.drew g gE cur1 hne).trans hE
 have hg1 : w.grownBy W1 (some g) := by
  rw [← hW1]
  have := setRow_grown w.drew g cur1
  exact ⟨this.os, this.tape, this.output, this.size, this.block⟩
 -- the second one: the entry
 have hcp2 := run_copy_rowK (P := Tryz.prog) W1 140 140 3 145 3 g (i * 3) (n + 1 - i) (cap - i) ⟨gE, 0, none⟩ 1 1 cur1 145 (entCells k u) Tryz.underlying140 hsize hcur1
  (by show 3 = _; simp only [Nat.min_def]; split <;> omega) (fun j v hj => entCells_at hE1 j v hj) (by rw [← Array.length_toList, hcl1]; show i * 3 + 3 ≤ _; omega) (entCells_one hu1)
 have hmin2 : Nat.min 1 (n + 1 - i) = 1 := by simp only [Nat.min_def]; split <;> omega
 rw [hmin2] at hcp2
 obtain ⟨cur2, hc2⟩ : ∃ cur2, (cur1.toList.take (i * 3) ++ entCells k u ++ cur1.toList.drop (i * 3 + (entCells k u).length)).toArray = cur2 := ⟨_, rfl⟩
 rw [hc2] at hcp2
 obtain ⟨W2, hW2⟩ : ∃ W2, W1.setRow g cur2 = W2 := ⟨_, rfl⟩
 rw [hW2] at hcp2
 have HEND : Aside0 (W2.ownsRow base 145 3 (.slice (some ⟨g, 0, none⟩) (n + 1) cap) (n + 1) (cs.take (i * 3) ++ entCells k u ++ cs.drop (i * 3)) ∧ w.grownBy W2 (some g)) := ⟨by
  refine ⟨⟨?_, .inr ⟨g, cap, cur2, rfl, hbg, by rw [← hW2]; exact setRow_at hcur1 cur2, hroom, hmx, ?_, ?_⟩⟩, ?_⟩
  ·
   simp only [List.length_append, hdl, hdl2, List.length_cons, List.length_nil]; omega
  ·
   rw [← Array.length_toList, ← hc2]
   simp only [List.length_append, List.length_take, List.length_drop, List.length_cons, List.length_nil, hcl1]; omega
  ·
   rw [← hc2, ← h1a, ← h1b]
   simp only []
   rw [show (n + 1) * 3 = (i * 3 + 3) + (n - i) * 3 by omega]
   have hl : (cur1.toList.take (i * 3) ++ entCells k u).length = i * 3 + 3 := by simp only [List.length_append, List.length_take, List.length_cons, List.length_nil, hcl1]; omega
   rw [show i * 3 + (entCells k u).length = i * 3 + 3 from rfl, ← hl, List.take_length_add_append]
  ·
   rw [← hW2]
   have h2 := setRow_grown W1 g cur2
   exact ⟨h2.os.trans hg1.os, h2.tape.trans hg1.tape, h2.output.trans hg1.output, Nat.le_trans hg1.size h2.size, fun q hq hqn => (h2.block q (Nat.lt_of_lt_of_le hq hg1.size) hqn).trans (hg1.block q hq hqn)⟩⟩
 have HCP1 := Aside0.mk hcp1
 have HCP2 := Aside0.mk hcp2
 clear hcp1 hcp2 hW2 hc2 hg1 hE1 hcur1 hW1 h1a h1b hcl1 hc1 hcul hdl hdl2 hcell hfE hshE hshG hsize hcur htk hsz hcl hmin1 hmin2
 have hz1 : ((i : Int) == (n : Int)) = false := beq_eq_false_iff_ne.2 (by omega)
 have hz2 : decide ((n : Int) + 1 > (cap : Int)) = false := decide_eq_false (by omega)
 have hz3 : decide ((cap : Int) < (n : Int) + 1) = false := decide_eq_false (by omega)
 obtain ⟨rs, HRS⟩ : ∃ rs, Aside0 (cs.take (i * 3) ++ entCells k u ++ cs.drop (i * 3) = rs) := ⟨_, ⟨rfl⟩⟩
 rw [HRS.out] at HEND ⊢
 have hij : (i : Int) + 1 = (j : Int) := by omega
 have hjn : j ≤ n + 1 := by omega
 have hjc : ¬ (cap = j) := by omega
 have hic : ¬ (cap = i) := by omega
 have hin : i ≤ n + 1 := by omega
 have hjn2 : (j : Int) ≤ (n : Int) + 1 := by omega
 have hin2 : (i : Int) ≤ (n : Int) + 1 := by omega
 have hjn3 : j ≤ n := by omega
 clear hj
 go_enter Tryz.func102, Tryz.ntmps102
 go_wp2_with (simp only [hov])
 refine AnyOrder.wp_region (by kernel_rfl) (shiftInv w W1 g gE n cap i j _ _ _ _ _ _ _ _ _ _ _ _ _ _ _ _ _ _ _ _ _ _ _ _ _ _ _ _ _ _ _ _ _ _ _ _ _ _ _ _ _ _ _ _ _ _ _ _ _ _ _ _ _ _ _ _ _ _ _) ⟨false, false, false, false, false, false, false, false, false, rfl, rfl, ⟨⟨fun h => (by cases h), fun _ => rfl⟩⟩⟩ ?step ?last
 case step =>
  rintro L ac V i ⟨l0, l1, l2, l3, l4, l5, l6, l7, l8, rfl, rfl, HF⟩ hi K hK
  have h1 : i = 0 ∨ i = 1 ∨ i = 2 ∨ i = 3 ∨ i = 4 ∨ i = 5 ∨ i = 6 ∨ i = 7 ∨ i = 8 := by
   have h1 := (AnyOrder.mem_ready hi).1
   clear hi hK
   change i < 9 at h1
   omega
  rcases h1 with rfl | rfl | rfl | rfl | rfl | rfl | rfl | rfl | rfl
  ·
   obtain rfl : l0 = false := (AnyOrder.mem_ready hi).2.1
   clear hi
   refine AnyOrder.wpOp_go rfl (by rfl) ?_
   go_wp2_with fail
   exact ⟨true, l1, l2, l3, l4, l5, l6, l7, l8, rfl, rfl, HF⟩
  ·
   obtain rfl : l1 = false := (AnyOrder.mem_ready hi).2.1
   clear hi
   refine AnyOrder.wpOp_go rfl (by rfl) ?_
   go_wp2_with fail
   exact ⟨l0, true, l2, l3, l4, l5, l6, l7, l8, rfl, rfl, HF⟩
  ·
   obtain rfl : l2 = false := (AnyOrder.mem_ready hi).2.1
   clear hi
   refine AnyOrder.wpOp_go rfl (by rfl) ?_
   go_wp2_with fail
   exact ⟨l0, l1, true, l3, l4, l5, l6, l7, l8, rfl, rfl, HF⟩
  ·
   obtain rfl : l3 = false := (AnyOrder.mem_ready hi).2.1
   obtain rfl : l1 = true := AnyOrder.dep (q := 0) hi rfl rfl rfl
   obtain rfl : l2 = true := AnyOrder.dep (q := 1) hi rfl rfl rfl
   clear hi
   simp only [sel_true, selv_true] at hK ⊢
   refine AnyOrder.wpOp_go rfl (by rfl) ?_
   go_wp2_with fail
   exact ⟨l0, true, true, true, l4, l5, l6, l7, l8, rfl, rfl, HF⟩
  ·
   obtain rfl : l4 = false := (AnyOrder.mem_ready hi).2.1
   obtain rfl : l0 = true := AnyOrder.dep (q := 0) hi rfl rfl rfl
   obtain rfl : l3 = true := AnyOrder.dep (q := 1) hi rfl rfl rfl
   clear hi
   simp only [sel_true, selv_true] at hK ⊢
   refine AnyOrder.wpOp_go rfl (by rfl) ?_
   go_wp2_with fail
   exact ⟨true, l1, l2, true, true, l5, l6, l7, l8, rfl, rfl, HF⟩
  ·
   obtain rfl : l5 = false := (AnyOrder.mem_ready hi).2.1
   clear hi
   refine AnyOrder.wpOp_go rfl (by rfl) ?_
   go_wp2_with fail
   exact ⟨l0, l1, l2, l3, l4, true, l6, l7, l8, rfl, rfl, HF⟩
  ·
   obtain rfl : l6 = false := (AnyOrder.mem_ready hi).2.1
   clear hi
   refine AnyOrder.wpOp_go rfl (by rfl) ?_
   go_wp2_with fail
   exact ⟨l0, l1, l2, l3, l4, l5, true, l7, l8, rfl, rfl, HF⟩
  ·
   obtain rfl : l7 = false := (AnyOrder.mem_ready hi).2.1
   obtain rfl : l5 = true := AnyOrder.dep (q := 0) hi rfl rfl rfl
   obtain rfl : l6 = true := AnyOrder.dep (q := 1) hi rfl rfl rfl
   clear hi
   simp only [sel_true, selv_true] at hK ⊢
   refine AnyOrder.wpOp_go rfl (by rfl) ?_
   go_wp2_with fail
   exact ⟨l0, l1, l2, l3, l4, true, true, true, l8, rfl, rfl, HF⟩
  ·
   obtain rfl : l8 = false := (AnyOrder.mem_ready hi).2.1
   obtain rfl : l4 = true := AnyOrder.dep (q := 0) hi rfl rfl rfl
   obtain rfl : l7 = true := AnyOrder.dep (q := 1) hi rfl rfl rfl
   clear hi
   simp only [sel_true, selv_true] at hK ⊢
   obtain rfl := HF.out.2 rfl
   refine AnyOrder.wpOp_go rfl (by rfl) ?_
   refine wp_copy_eq (.tmp 73) (.tmp 76) 140 rfl rfl rfl (HCP1.out) ?_
   exact hK _ _ ⟨l0, l1, l2, l3, true, l5, l6, true, true, rfl, rfl, ⟨⟨fun _ => rfl, fun h => (by cases h)⟩⟩⟩
 case last =>
  rintro L ac V ⟨l0, l1, l2, l3, l4, l5, l6, l7, l8, rfl, rfl, HF⟩ hr
  have hall := AnyOrder.all_listed rfl (by kernel_rfl) hr
  clear hr
  obtain rfl : l0 = true := hall 0 (by decide)
  obtain rfl : l1 = true := hall 1 (by decide)
  obtain rfl : l2 = true := hall 2 (by decide)
  obtain rfl : l3 = true := hall 3 (by decide)
  obtain rfl : l4 = true := hall 4 (by decide)
  obtain rfl : l5 = true := hall 5 (by decide)
  obtain rfl : l6 = true := hall 6 (by decide)
  obtain rfl : l7 = true := hall 7 (by decide)
  obtain rfl : l8 = true := hall 8 (by decide)
  clear hall
  simp only [sel_true, selv_true]
  obtain rfl := HF.out.1 rfl
  have hcp2 := HCP2.out
  go_wp2
  go_ret
  exact ⟨_, rfl, HEND.out⟩
def grownInv (W2 W3 : World) (N g gE n G cap i j : Nat) (z10 z11 z12 z13 z14 z15 z16 z17 z18 z19 z20 z21 z22 z23 z24 z25 z26 z27 z28 z29 z30 z31 z32 z33 z34 z35 z36 z37 z38 z39 z40 z41 z42 z43 z44 z45 : Value) (L : Array Bool) (ac : Act) (V : World) : Prop := ∃ (l0 l1 l2 l3 l4 l5 l6 l7 l8 : Bool), L = #[l0, l1, l2, l3, l4, l5, l6, l7, l8] ∧ ac = { tmps := #[.slice (some ⟨g, 0, none⟩) n cap, .int .i64 i, .slice (some ⟨gE, 0, none⟩) 1 1, undef, undef, undef, .slice none 0 0, .int .i64 1, .int .i64 n, .slice (some ⟨N, 0, none⟩) (n + 1) G, z10, z11, z12, z13, z14, z15, z16, z17, z18, z19, z20, z21, z22, z23, z24, z25, z26, z27, z28, z29, z30, z31, z32, z33, z34, z35, z36, z37, z38, z39, z40, z41, z42, z43, z44, z45, sel l0 (.slice (some ⟨N, 0, none⟩) (n + 1) G), sel l1 (.int .i64 i), sel l2 (.int .i64 1), sel l3 (.int .i64 j), sel l4 (.slice (some ⟨N, j * 3, none⟩) (n + 1 - j) (G - j)), sel l5 (.slice (some ⟨g, 0, none⟩) n cap), sel l6 (.int .i64 i), sel l7 (.slice (some ⟨g, i * 3, none⟩) (n - i) (cap - i)), sel l8 (goInt ((n - i : Nat) : Int)), undef, undef, undef, undef, undef, undef, undef, undef, undef, undef, undef, undef, undef, undef, undef, undef, undef, undef, undef, undef, undef, undef, undef, undef, undef, undef, undef, undef, undef, undef, undef, undef, undef, undef, undef, undef, undef, undef, undef, undef], defers := [] } ∧ Aside0 ((l8 = true → V = W3) ∧ (l8 = false → V = W2.drew))
set_option maxHeartbeats 1000000 in
set_option maxRecDepth 100000 in
theorem insert_grow (base g n cap i : Nat) (cs : List Value) (k : Dot) (u : Value) (gE : Nat) (w : World) (ho : w.ownsRow base 145 3 (.slice (some ⟨g, 0, none⟩) n cap) n cs)
  (hE : w.heap[gE]? = some (.cells #[.int .i64 k.f0, .int .i64 k.f1, u] 145 (0, 0))) (hu1 : u.oneCell' = true) (hcs1 : ∀ v ∈ cs, v.oneCell' = true) (hn : n ≤ 1000000) (hi : i < n) (hroom : cap < n + 1) (hb : base ≤ w.heap.size) :
  Calls Tryz.prog 102 #[.slice (some ⟨g, 0, none⟩) n cap, .int .i64 i, .slice (some ⟨gE, 0, none⟩) 1 1] w fun e w' => ∃ v', e = .returned v' ∧ w'.ownsRow base 145 3 v' (n + 1) (cs.take (i * 3) ++ entCells k u ++ cs.drop (i * 3)) ∧ w.grownBy w' (some g) := by
 obtain ⟨hcl, ho⟩ := ho
 rcases ho with ⟨h, _⟩ | ⟨g', cap', cur, he, hbg, hcur, hle, hmx, hsz, htk⟩
 ·
  cases h
 cases he
 obtain ⟨i0, hi0, hz0, hzs, hzb⟩ := info_parts infoE
 have hsize : (Tryz.prog.info? 145).map (·.size) = some 3 := by rw [hi0]; simp [hzs]
 have hcell : ∀ j v, cs[j]? = some v → w.cell? ⟨g, j, none⟩ = some v := fun j v hj => by
  rw [blk_cell hcur, ← Array.getElem?_toList]
  rw [← htk, List.getElem?_take] at hj
  split at hj
  ·
   exact hj
  ·
   cases hj
 have hgl : g < w.heap.size := blk_lt hcur
 have hel : gE < w.heap.size := blk_lt hE
 have hdl : (cs.drop (i * 3)).length = (n - i) * 3 := by rw [List.length_drop, hcl]; omega
 have hdl2 : (cs.take (i * 3)).length = i * 3 := by rw [List.length_take, hcl]; omega
 obtain ⟨z, hz⟩ : ∃ z : Value, (Value.agg #[(.int .i64 0), (.int .i64 0), (.slice none 0 0)]) = z := ⟨_, rfl⟩
 have hzc : z.cells.size = 3 := by rw [← hz]; rfl
 rw [hz] at hz0
 have hold : (Builtin.firstCells i0.size i (.slice (some ⟨g, 0, none⟩) i cap)).run Tryz.prog w.drew = .ok (cs.take (i * 3)).toArray w.drew := by
  rw [hzs]
  exact run_firstCells_some w.drew 3 i ⟨g, 0, none⟩ i cap (cs.take (i * 3)) (by rw [hdl2]) (fun j v hj => by
   rw [add_lit, Nat.zero_add]
   rw [List.getElem?_take] at hj
   split at hj
   ·
    exact hcell j v hj
   ·
    cases hj)
 obtain ⟨G, hG⟩ : ∃ G, G = grownCap w (n + 1) cap 145 := ⟨_, rfl⟩
 have hGn : n + 1 ≤ G := by rw [hG]; exact grownCap_ge w _ _ _
 have hGm : G ≤ maxLen := by rw [hG]; exact grownCap_le_maxLen w (n + 1) cap 145 (by unfold maxLen; omega)
 have hrz := Lib.run_append_grow_zeros w 140 3 140 145 i0 z .i64 .i64 Tryz.underlying140 Tryz.underlying3 hi0 hz0 (some ⟨g, 0, none⟩) i cap (cs.take (i * 3)) hold (n + 1 - i) (by omega) (by omega) (by omega) (by omega) (by rw [hzb]; omega) (by rw [hzb, show i + (n + 1 - i) = n + 1 by omega]; exact growslice_fits hroom (by omega))
 rw [show i + (n + 1 - i) = n + 1 by omega, ← hG] at hrz
 obtain ⟨ROW, hROW⟩ : ∃ ROW : Array Value, (cs.take (i * 3)).toArray ++ Builtin.zeroCells z.cells (n + 1 - i) ++ Builtin.zeroCells z.cells (G - (n + 1)) = ROW := ⟨_, rfl⟩
 rw [hROW] at hrz
 have hRs : ROW.size = G * 3 := by
  rw [← hROW, Array.size_append, Array.size_append, size_zeroCells, size_zeroCells, hzc, List.size_toArray, hdl2]; omega
 have hRl : ROW.toList.length = G * 3 := by rw [Array.length_toList]; exact hRs
 have hRt : ROW.toList.take (i * 3) = cs.take (i * 3) := by
  rw [← hROW, Array.toList_append, Array.toList_append, List.append_assoc]
  simp only []
  rw [List.take_left' hdl2]
 obtain ⟨W1, hW1⟩ : ∃ W1, w.drew.alloc (.cells ROW 145) = W1 := ⟨_, rfl⟩
 rw [hW1] at hrz
 obtain ⟨N, hN⟩ : ∃ N, w.heap.size = N := ⟨_, rfl⟩
 have hW1N : W1.heap[N]? = some (.cells ROW 145 (0, 0)) := by rw [← hW1, ← hN]; exact blk_new w.drew _
 have hW1o : ∀ q, q < N → W1.heap[q]? = w.heap[q]? := fun q hq => by rw [← hW1]; exact ((Below.refl _ w.drew).alloc (Nat.le_refl _) _).block q (by show q < w.heap.size; omega)
 have hW1b : Below w.heap.size w W1 := by rw [← hW1]; exact below_alloc (below_drew1 (Below.refl _ _)) _
 -- the first copy: the entry
 have hE1 : W1.heap[gE]? = some (.cells #[.int .i64 k.f0, .int .i64 k.f1, u] 145 (0, 0)) := (hW1o gE (by omega)).trans hE
 have hcp1 := run_copy_rowK (P := Tryz.prog) W1 140 140 3 145 3 N (i * 3) (n + 1 - i) (G - i) ⟨gE, 0, none⟩ 1 1 ROW 145 (entCells k u) Tryz.underlying140 hsize hW1N
  (by show 3 = _; simp only [Nat.min_def]; split <;> omega) (fun j v hj => entCells_at hE1 j v hj) (by rw [hRs]; show i * 3 + 3 ≤ _; omega) (entCells_one hu1)
 have hmin1 : Nat.min 1 (n + 1 - i) = 1 := by simp only [Nat.min_def]; split <;> omega
 rw [hmin1] at hcp1
 obtain ⟨cur1, hc1⟩ : ∃ cur1, (ROW.toList.take (i * 3) ++ entCells k u ++ ROW.toList.drop (i * 3 + (entCells k u).length)).toArray = cur1 := ⟨_, rfl⟩
 rw [hc1] at hcp1
 have hcl1 : cur1.toList.length = G * 3 := by
  rw [← hc1]
  simp only [List.length_append, List.length_take, List.length_drop, List.length_cons, List.length_nil, hRl]; omega
 obtain ⟨j, hj⟩ : ∃ j, i + 1 = j := ⟨_, rfl⟩
 have h1a : cur1.toList.take (j * 3) = cs.take (i * 3) ++ entCells k u := by
  rw [← hc1, hRt]
  simp only []
  exact List.take_left' (by rw [List.length_append, hdl2]; show i * 3 + 3 = j * 3; omega)
 obtain ⟨W2, hW2⟩ : ∃ W2, W1.setRow N cur1 = W2 := ⟨_, rfl⟩
 rw [hW2] at hcp1
 have hW2N : W2.heap[N]? = some (.cells cur1 145 (0, 0)) := by rw [← hW2]; exact setRow_at hW1N cur1
 have hW2o : ∀ q, q < N → W2.heap[q]? = w.heap[q]? := fun q hq => by rw [← hW2]; exact (setRow_other W1 N q cur1 (by omega)).trans (hW1o q hq)
 have hg2 := setRow_grown W1 N cur1
 rw [hW2] at hg2
 -- the second one: what stood from i on
 have hcp2 := run_copy_rowK (P := Tryz.prog) W2.drew 140 140 3 145 3 N (j * 3) (n + 1 - j) (G - j) ⟨g, i * 3, none⟩ (n - i) (cap - i) cur1 145 (cs.drop (i * 3)) Tryz.underlying140 hsize hW2N
  (by rw [hdl]; congr 1; simp only [Nat.min_def]; split <;> omega)
  (fun q v hq => by
   rw [add_lit]
   have := hcell _ v (by rwa [List.getElem?_drop] at hq)
   rw [← this]
   exact World.cell?_of_block (w := w) (hW2o g (by omega)))
  (by rw [hdl, ← Array.length_toList, hcl1]; omega) (fun v hv => hcs1 v (List.mem_of_mem_drop hv))
 have hmin2 : Nat.min (n - i) (n + 1 - j) = n - i := by simp only [Nat.min_def]; split <;> omega
 rw [hmin2] at hcp2
 obtain ⟨cur2, hc2⟩ : ∃ cur2, (cur1.toList.take (j * 3) ++ cs.drop (i * 3) ++ cur1.toList.drop (j * 3 + (cs.drop (i * 3)).length)).toArray = cur2 := ⟨_, rfl⟩
 rw [hc2] at hcp2
 obtain ⟨W3, hW3⟩ : ∃ W3, W2.drew.setRow N cur2 = W3 := ⟨_, rfl⟩
 rw [hW3] at hcp2
 have hg3 := setRow_grown W2.drew N cur2
 rw [hW3] at hg3
 have HEND : Aside0 (W3.ownsRow base 145 3 (.slice (some ⟨N, 0, none⟩) (n + 1) G) (n + 1) (cs.take (i * 3) ++ entCells k u ++ cs.drop (i * 3)) ∧ w.grownBy W3 (some g)) := ⟨by
  refine ⟨⟨?_, .inr ⟨N, G, cur2, rfl, by omega, by rw [← hW3]; exact setRow_at (show W2.drew.heap[N]? = _ from hW2N) cur2, hGn, hGm, ?_, ?_⟩⟩, ?_⟩
  ·
   simp only [List.length_append, hdl, hdl2, List.length_cons, List.length_nil]; omega
  ·
   rw [← Array.length_toList, ← hc2]
   simp only [List.length_append, List.length_take, List.length_drop, List.length_cons, List.length_nil, hcl1, hcl]; omega
  ·
   rw [← hc2, h1a]
   simp only []
   exact List.take_left' (by simp only [List.length_append, hdl, hdl2, List.length_cons, List.length_nil]; omega)
  ·
   exact ⟨hg3.os.trans (hg2.os.trans hW1b.os), hg3.tape.trans (hg2.tape.trans hW1b.tape), hg3.output.trans (hg2.output.trans hW1b.output), Nat.le_trans hW1b.size (Nat.le_trans hg2.size hg3.size), fun q hq _ => by
    have h3 := hg3.block q (by show q < W2.heap.size; have := hg2.size; have := hW1b.size; omega) (fun e => by cases e; omega)
    exact h3.trans (hW2o q (by omega))⟩⟩
 obtain ⟨rs, HRS⟩ : ∃ rs, Aside0 (cs.take (i * 3) ++ entCells k u ++ cs.drop (i * 3) = rs) := ⟨_, ⟨rfl⟩⟩
 rw [HRS.out] at HEND ⊢
 rw [hN] at hrz
 have HRZ := Aside0.mk hrz
 have HCP1 := Aside0.mk hcp1
 have HCP2 := Aside0.mk hcp2
 have HGM : Aside0 (G ≤ 9223372036854775807) := ⟨by unfold maxLen at hGm; omega⟩
 clear hG hcp1 hcp2 hrz hg2 hg3 hW3 hW2 hW1 hc1 hc2 h1a hcl1 hRl hRt hRs hROW hold hz hzc hz0 hzs hzb hi0 hsize hcell hdl hdl2 hW1b hW1o hW1N hE1 hW2N hW2o hcur htk hsz hcl hE hmin1 hmin2 hmx hGm hgl hel hbg hN hb
 have hz1 : ((i : Int) == (n : Int)) = false := beq_eq_false_iff_ne.2 (by omega)
 have hz2 : decide ((n : Int) + 1 > (cap : Int)) = true := decide_eq_true (by omega)
 have hz3 : decide ((cap : Int) < (n : Int) + 1) = true := decide_eq_true (by omega)
 have hij : (i : Int) + 1 = (j : Int) := by omega
 have hjn : j ≤ n + 1 := by omega
 have hjc : ¬ (G = j) := by omega
 have hic : ¬ (G = i) := by omega
 have hin : i ≤ n + 1 := by omega
 have hjn2 : (j : Int) ≤ (n : Int) + 1 := by omega
 have hin2 : (i : Int) ≤ (n : Int) + 1 := by omega
 have hic2 : ¬ (cap = i) := by omega
 have hkk : (n : Int) + 1 - (i : Int) = ((n + 1 - i : Nat) : Int) := by omega
 have hcp1 := HCP1.out
 clear hj
 go_enter Tryz.func102, Tryz.ntmps102
 go_wp2_with (at_builtin; refine wpList_append_eq2 rfl (.tmp 34) (.tmp 39) 140 3 rfl rfl rfl HRZ.out ?_)
 refine AnyOrder.wp_region (by kernel_rfl) (grownInv W2 W3 N g gE n G cap i j _ _ _ _ _ _ _ _ _ _ _ _ _ _ _ _ _ _ _ _ _ _ _ _ _ _ _ _ _ _ _ _ _ _ _ _) ⟨false, false, false, false, false, false, false, false, false, rfl, rfl, ⟨⟨fun h => (by cases h), fun _ => rfl⟩⟩⟩ ?step ?last
 case step =>
  rintro L ac V i ⟨l0, l1, l2, l3, l4, l5, l6, l7, l8, rfl, rfl, HF⟩ hi K hK
  have h1 : i = 0 ∨ i = 1 ∨ i = 2 ∨ i = 3 ∨ i = 4 ∨ i = 5 ∨ i = 6 ∨ i = 7 ∨ i = 8 := by
   have h1 := (AnyOrder.mem_ready hi).1
   clear hi hK
   change i < 9 at h1
   omega
  rcases h1 with rfl | rfl | rfl | rfl | rfl | rfl | rfl | rfl | rfl
  ·
   obtain rfl : l0 = false := (AnyOrder.mem_ready hi).2.1
   clear hi
   refine AnyOrder.wpOp_go rfl (by rfl) ?_
   go_wp2_with fail
   exact ⟨true, l1, l2, l3, l4, l5, l6, l7, l8, rfl, rfl, HF⟩
  ·
   obtain rfl : l1 = false := (AnyOrder.mem_ready hi).2.1
   clear hi
   refine AnyOrder.wpOp_go rfl (by rfl) ?_
   go_wp2_with fail
   exact ⟨l0, true, l2, l3, l4, l5, l6, l7, l8, rfl, rfl, HF⟩
  ·
   obtain rfl : l2 = false := (AnyOrder.mem_ready hi).2.1
   clear hi
   refine AnyOrder.wpOp_go rfl (by rfl) ?_
   go_wp2_with fail
   exact ⟨l0, l1, true, l3, l4, l5, l6, l7, l8, rfl, rfl, HF⟩
  ·
   obtain rfl : l3 = false := (AnyOrder.mem_ready hi).2.1
   obtain rfl : l1 = true := AnyOrder.dep (q := 0) hi rfl rfl rfl
   obtain rfl : l2 = true := AnyOrder.dep (q := 1) hi rfl rfl rfl
   clear hi
   simp only [sel_true, selv_true] at hK ⊢
   refine AnyOrder.wpOp_go rfl (by rfl) ?_
   go_wp2_with fail
   exact ⟨l0, true, true, true, l4, l5, l6, l7, l8, rfl, rfl, HF⟩
  ·
   obtain rfl : l4 = false := (AnyOrder.mem_ready hi).2.1
   obtain rfl : l0 = true := AnyOrder.dep (q := 0) hi rfl rfl rfl
   obtain rfl : l3 = true := AnyOrder.dep (q := 1) hi rfl rfl rfl
   clear hi
   simp only [sel_true, selv_true] at hK ⊢
   refine AnyOrder.wpOp_go rfl (by rfl) ?_
   go_wp2_with fail
   exact ⟨true, l1, l2, true, true, l5, l6, l7, l8, rfl, rfl, HF⟩
  ·
   obtain rfl : l5 = false := (AnyOrder.mem_ready hi).2.1
   clear hi
   refine AnyOrder.wpOp_go rfl (by rfl) ?_
   go_wp2_with fail
   exact ⟨l0, l1, l2, l3, l4, true, l6, l7, l8, rfl, rfl, HF⟩
  ·
   obtain rfl : l6 = false := (AnyOrder.mem_ready hi).2.1
   clear hi
   refine AnyOrder.wpOp_go rfl (by rfl) ?_
   go_wp2_with fail
   exact ⟨l0, l1, l2, l3, l4, l5, true, l7, l8, rfl, rfl, HF⟩
  ·
   obtain rfl : l7 = false := (AnyOrder.mem_ready hi).2.1
   obtain rfl : l5 = true := AnyOrder.dep (q := 0) hi rfl rfl rfl
   obtain rfl : l6 = true := AnyOrder.dep (q := 1) hi rfl rfl rfl
   clear hi
   simp only [sel_true, selv_true] at hK ⊢
   refine AnyOrder.wpOp_go rfl (by rfl) ?_
   go_wp2_with fail
   exact ⟨l0, l1, l2, l3, l4, true, true, true, l8, rfl, rfl, HF⟩
  ·
   obtain rfl : l8 = false := (AnyOrder.mem_ready hi).2.1
   obtain rfl : l4 = true := AnyOrder.dep (q := 0) hi rfl rfl rfl
   obtain rfl : l7 = true := AnyOrder.dep (q := 1) hi rfl rfl rfl
   clear hi
   simp only [sel_true, selv_true] at hK ⊢
   obtain rfl := HF.out.2 rfl
   refine AnyOrder.wpOp_go rfl (by rfl) ?_
   refine wp_copy_eq (.tmp 50) (.tmp 53) 140 rfl rfl rfl (HCP2.out) ?_
   exact hK _ _ ⟨l0, l1, l2, l3, true, l5, l6, true, true, rfl, rfl, ⟨⟨fun _ => rfl, fun h => (by cases h)⟩⟩⟩
 case last =>
  rintro L ac V ⟨l0, l1, l2, l3, l4, l5, l6, l7, l8, rfl, rfl, HF⟩ hr
  have hall := AnyOrder.all_listed rfl (by kernel_rfl) hr
  clear hr
  obtain rfl : l0 = true := hall 0 (by decide)
  obtain rfl : l1 = true := hall 1 (by decide)
  obtain rfl : l2 = true := hall 2 (by decide)
  obtain rfl : l3 = true := hall 3 (by decide)
  obtain rfl : l4 = true := hall 4 (by decide)
  obtain rfl : l5 = true := hall 5 (by decide)
  obtain rfl : l6 = true := hall 6 (by decide)
  obtain rfl : l7 = true := hall 7 (by decide)
  obtain rfl : l8 = true := hall 8 (by decide)
  clear hall
  simp only [sel_true, selv_true]
  obtain rfl := HF.out.1 rfl
  go_wp2
  go_ret
  exact ⟨_, rfl, HEND.out⟩
end Go.Proofs.YtdheokololpnbaaGreatDoor.PWalk
end
section
namespace Go.Proofs.YtdheokololpnbaaGreatDoor.PWalk
open Go.RowKit Go.Proofs.YtdheokololpnbaaGreatDoorW.PrintWords Go.Proofs.YtdheokololpnbaaGreatDoorW.PrintLast Go.Proofs.YtdheokololpnbaaGreatDoorW.PrintMore
set_option linter.unusedVariables false
set_option linter.unusedSimpArgs false
open Go.Shelf
attribute [local go_sem] Oper.semAt_some
theorem insert_call (base : Nat) (v : Value) (n i : Nat) (cs : List Value) (k : Dot) (u : Value) (gE : Nat) (w : World) (ho : w.ownsRow base 145 3 v n cs)
  (hE : w.heap[gE]? = some (.cells #[.int .i64 k.f0, .int .i64 k.f1, u] 145 (0, 0))) (hne : some gE ≠ v.ownBlock) (hu1 : u.oneCell' = true) (hcs1 : ∀ v ∈ cs, v.oneCell' = true) (hn : n ≤ 1000000) (hi : i ≤ n) (hb : base ≤ w.heap.size) :
  Calls Tryz.prog 102 #[v, .int .i64 i, .slice (some ⟨gE, 0, none⟩) 1 1] w fun e w' => ∃ v', e = .returned v' ∧ w'.ownsRow base 145 3 v' (n + 1) (cs.take (i * 3) ++ entCells k u ++ cs.drop (i * 3)) ∧ w.grownBy w' v.ownBlock := by
 have hcl : cs.length = n * 3 := ho.1
 by_cases hin : i = n
 ·
  subst hin
  obtain ⟨A, cap, rfl⟩ : ∃ A cap, v = .slice A i cap := by
   rcases ho.2 with ⟨rfl, rfl⟩ | ⟨g, c, cur, rfl, _⟩
   ·
    exact ⟨none, 0, rfl⟩
   ·
    exact ⟨_, _, rfl⟩
  rw [List.take_of_length_le (by omega), List.drop_of_length_le (by omega), List.append_nil]
  exact insert_end base A i cap cs k u gE w ho hE hu1 hn hb
 ·
  obtain ⟨g, cap, rfl⟩ : ∃ g cap, v = .slice (some ⟨g, 0, none⟩) n cap := by
   rcases ho.2 with ⟨_, h⟩ | ⟨g, c, cur, rfl, _⟩
   ·
    omega
   ·
    exact ⟨_, _, rfl⟩
  have hg : gE ≠ g := fun e => hne (by subst e; rfl)
  by_cases hr : n + 1 ≤ cap
  ·
   exact insert_shift base g n cap i cs k u gE w ho hE hg hu1 hcs1 hn (by omega) hr
  ·
   exact insert_grow base g n cap i cs k u gE w ho hE hu1 hcs1 hn (by omega) (by omega) hb
/-- Only the blocks of E have turned. -/
structure Tch (E : Nat → Prop) (W W' : World) : Prop where
 os : W'.os = W.os
 tape : W'.tape = W.tape
 output : W'.output = W.output
 size : W.heap.size ≤ W'.heap.size
 block : ∀ i, i < W.heap.size → ¬ E i → W'.heap[i]? = W.heap[i]?
theorem Tch.below {E : Nat → Prop} {W W' : World} (h : Below W.heap.size W W') : Tch E W W' := ⟨h.os, h.tape, h.output, h.size, fun i hi _ => h.block i hi⟩
theorem Tch.grown {E : Nat → Prop} {W W' : World} {row : Option Nat} (h : W.grownBy W' row) (hr : ∀ r, row = some r → E r) : Tch E W W' := ⟨h.os, h.tape, h.output, h.size, fun i hi he => h.block i hi (fun e => he (hr i e.symm))⟩
theorem Tch.trans {E E' : Nat → Prop} {A B C : World} (h : Tch E A B) (k : Tch E' B C) (he : ∀ i, i < A.heap.size → E' i → E i) : Tch E A C :=
 ⟨k.os.trans h.os, k.tape.trans h.tape, k.output.trans h.output, Nat.le_trans h.size k.size, fun i hi hn => (k.block i (Nat.lt_of_lt_of_le hi h.size) (fun e => hn (he i hi e))).trans (h.block i hi hn)⟩
theorem Tch.mono {E E' : Nat → Prop} {A B : World} (h : Tch E A B) (he : ∀ i, i < A.heap.size → E i → E' i) : Tch E' A B := ⟨h.os, h.tape, h.output, h.size, fun i hi hn => h.block i hi (fun e => hn (he i hi e))⟩
theorem Tch.on {E : Nat → Prop} {w W W' : World} (h : Tch E W W') (hb : Below w.heap.size w W) (he : ∀ i, E i → w.heap.size ≤ i) : Below w.heap.size w W' :=
 ⟨h.os.trans hb.os, h.tape.trans hb.tape, h.output.trans hb.output, Nat.le_trans hb.size h.size, fun i hi => (h.block i (Nat.lt_of_lt_of_le hi hb.size) (fun e => by have := he i e; omega)).trans (hb.block i hi)⟩
def entsOf : List Dot → List Value → List Value
 | k :: ks, v :: vs => entCells k v ++ entsOf ks vs
 | _, _ => []
theorem entsOf_length : ∀ {ks : List Dot} {vs : List Value}, vs.length = ks.length → (entsOf ks vs).length = ks.length * 3
 | [], [], _ => rfl
 | k :: ks, v :: vs, h => by
  have := entsOf_length (ks := ks) (vs := vs) (by simpa using h)
  rw [entsOf, List.length_append, this]; simp; omega
 | [], v :: vs, h => by simp at h
 | k :: ks, [], h => by simp at h
theorem entsOf_take : ∀ {ks : List Dot} {vs : List Value} (i : Nat), vs.length = ks.length → entsOf (ks.take i) (vs.take i) = (entsOf ks vs).take (i * 3)
 | [], [], i, _ => by simp [entsOf]
 | k :: ks, v :: vs, 0, _ => by simp [entsOf]
 | k :: ks, v :: vs, i + 1, h => by
  rw [List.take_succ_cons, List.take_succ_cons, entsOf, entsOf, entsOf_take i (by simpa using h), show (i + 1) * 3 = (entCells k v).length + i * 3 by show _ = 3 + i * 3; omega, List.take_length_add_append]
 | [], v :: vs, i, h => by simp at h
 | k :: ks, [], i, h => by simp at h
theorem entsOf_drop : ∀ {ks : List Dot} {vs : List Value} (i : Nat), vs.length = ks.length → entsOf (ks.drop i) (vs.drop i) = (entsOf ks vs).drop (i * 3)
 | [], [], i, _ => by simp [entsOf]
 | k :: ks, v :: vs, 0, _ => by simp
 | k :: ks, v :: vs, i + 1, h => by
  rw [List.drop_succ_cons, List.drop_succ_cons, entsOf, entsOf_drop i (by simpa using h), show (i + 1) * 3 = (entCells k v).length + i * 3 by show _ = 3 + i * 3; omega, List.drop_length_add_append]
 | [], v :: vs, i, h => by simp at h
 | k :: ks, [], i, h => by simp at h
theorem entsOf_append : ∀ {ks ks' : List Dot} {vs vs' : List Value}, vs.length = ks.length → entsOf (ks ++ ks') (vs ++ vs') = entsOf ks vs ++ entsOf ks' vs'
 | [], _, [], _, _ => rfl
 | k :: ks, _, v :: vs, _, h => by
  rw [List.cons_append, List.cons_append, entsOf, entsOf, entsOf_append (by simpa using h), List.append_assoc]
 | [], _, v :: vs, _, h => by simp at h
 | k :: ks, _, [], _, h => by simp at h
theorem entsOf_get : ∀ {ks : List Dot} {vs : List Value} {i : Nat} {k : Dot} {v : Value}, ks[i]? = some k → vs[i]? = some v → ∀ j, j < 3 → (entsOf ks vs)[i * 3 + j]? = (entCells k v)[j]?
 | k :: ks, v :: vs, 0, k', v', hk, hv, j, hj => by
  simp at hk hv; subst hk hv
  rw [entsOf, Nat.zero_mul, Nat.zero_add, List.getElem?_append_left (by show j < 3; exact hj)]
 | k :: ks, v :: vs, i + 1, k', v', hk, hv, j, hj => by
  rw [entsOf, show (i + 1) * 3 + j = 3 + (i * 3 + j) by omega, List.getElem?_append_right (by show 3 ≤ _; omega)]
  rw [show 3 + (i * 3 + j) - (entCells k v).length = i * 3 + j by show 3 + (i * 3 + j) - 3 = _; omega]
  exact entsOf_get (by simpa using hk) (by simpa using hv) j hj
 | [], _, i, k, v, hk, _, _, _ => by simp at hk
 | _ :: _, [], i, k, v, _, hv, _, _ => by simp at hv
theorem entsOf_one : ∀ {ks : List Dot} {vs : List Value}, (∀ v ∈ vs, v.oneCell' = true) → ∀ u ∈ entsOf ks vs, u.oneCell' = true
 | [], _, _, u, hu => by simp [entsOf] at hu
 | _ :: _, [], _, u, hu => by simp [entsOf] at hu
 | k :: ks, v :: vs, h, u, hu => by
  rw [entsOf] at hu
  rcases List.mem_append.1 hu with hu | hu
  ·
   exact entCells_one (h v List.mem_cons_self) u hu
  ·
   exact entsOf_one (fun x hx => h x (List.mem_cons_of_mem _ hx)) u hu
theorem entsOf_set : ∀ {ks : List Dot} {vs : List Value} {i : Nat} {k : Dot} {u : Value}, vs.length = ks.length → ks[i]? = some k → entsOf ks (vs.set i u) = (entsOf ks vs).set (i * 3 + 2) u
 | k :: ks, v :: vs, 0, k', u, h, hk => by simp [entsOf]
 | k :: ks, v :: vs, i + 1, k', u, h, hk => by
  rw [List.set_cons_succ, entsOf, entsOf, entsOf_set (by simpa using h) (by simpa using hk), List.set_append_right _ _ (by show 3 ≤ _; omega)]
  congr 2
  show i * 3 + 2 = (i + 1) * 3 + 2 - 3
  omega
 | [], _, i, k, u, _, hk => by simp at hk
 | k :: ks, [], i, k', u, h, _ => by simp at h
/-- The map at mp has these keys with these values, in memory of the call's own. -/
structure MapSt (base : Nat) (W : World) (mp : Nat) (v : Value) (ks : List Dot) (vs : List Value) : Prop where
 map : W.heap[mp]? = some (.cells #[cmpV, v] 142 (0, 0))
 own : base ≤ mp
 row : W.ownsRow base 145 3 v ks.length (entsOf ks vs)
 len : vs.length = ks.length
 small : ks.length ≤ 1000000
 one : ∀ v ∈ vs, v.oneCell' = true
 inc : incB ks = true
theorem MapSt.ents {base : Nat} {W : World} {mp : Nat} {v : Value} {ks : List Dot} {vs : List Value} (h : MapSt base W mp v ks vs) : ∃ A c, v = .slice A ks.length c ∧ Ents W A ks.length ks vs := by
 rcases h.row.2 with ⟨rfl, h0⟩ | ⟨g, c, cur, rfl, hbg, hcur, hle, hmx, hsz, htk⟩
 ·
  have hks : ks = [] := List.length_eq_zero_iff.1 h0
  subst hks
  exact ⟨none, 0, rfl, ⟨rfl, h.len, by simp, h.one, fun i k v hk => by simp at hk⟩⟩
 ·
  refine ⟨_, c, rfl, ⟨rfl, h.len, h.small, h.one, fun i k v hk hv => ⟨g, rfl, ?_⟩⟩⟩
  have hi : i < ks.length := (List.getElem?_eq_some_iff.1 hk).1
  have hc : ∀ j, j < 3 → W.cell? ⟨g, i * 3 + j, none⟩ = (entCells k v)[j]? := fun j hj => by
   rw [blk_cell hcur, ← Array.getElem?_toList, ← entsOf_get hk hv j hj, ← htk, List.getElem?_take, if_pos (by omega)]
  exact ⟨hc 0 (by decide), hc 1 (by decide), hc 2 (by decide)⟩
theorem ownsRow_keep {W V : World} {base e size n : Nat} {v : Value} {xs : List Value} (h : W.ownsRow base e size v n xs) (hk : ∀ g, v.ownBlock = some g → V.heap[g]? = W.heap[g]?) : V.ownsRow base e size v n xs := by
 refine ⟨h.1, h.2.imp id ?_⟩
 rintro ⟨g, c, cur, rfl, hbg, hcur, hr⟩
 exact ⟨g, c, cur, rfl, hbg, (hk g rfl).trans hcur, hr⟩
theorem MapSt.keep {base : Nat} {W V : World} {mp : Nat} {v : Value} {ks : List Dot} {vs : List Value} (h : MapSt base W mp v ks vs) (hm : V.heap[mp]? = W.heap[mp]?) (hv : ∀ g, v.ownBlock = some g → V.heap[g]? = W.heap[g]?) : MapSt base V mp v ks vs :=
 ⟨hm.trans h.map, h.own, ownsRow_keep h.row hv, h.len, h.small, h.one, h.inc⟩
theorem MapSt.below {base : Nat} {W V : World} {mp : Nat} {v : Value} {ks : List Dot} {vs : List Value} (h : MapSt base W mp v ks vs) (hb : Below W.heap.size W V) : MapSt base V mp v ks vs :=
 h.keep (hb.block mp (blk_lt h.map)) (fun g hg => by
  rcases h.row.2 with ⟨rfl, _⟩ | ⟨g', c, cur, rfl, _, hcur, _⟩
  ·
   cases hg
  ·
   cases hg; exact hb.block _ (blk_lt hcur))
/-- The map's own blocks. -/
def MapBl (mp : Nat) (v : Value) (i : Nat) : Prop := i = mp ∨ v.ownBlock = some i
theorem MapSt.apart {base : Nat} {W : World} {mp : Nat} {v : Value} {ks : List Dot} {vs : List Value} (h : MapSt base W mp v ks vs) : v.ownBlock ≠ some mp := fun e => by
 rcases h.row.2 with ⟨rfl, _⟩ | ⟨g, c, cur, rfl, _, hcur, _⟩
 ·
  cases e
 ·
  cases e
  rw [h.map] at hcur
  exact absurd (Obj.cells.inj (Option.some.inj hcur)).2.1 (by decide)
theorem MapSt.base_le {base : Nat} {W : World} {mp : Nat} {v : Value} {ks : List Dot} {vs : List Value} (h : MapSt base W mp v ks vs) {i : Nat} (hi : MapBl mp v i) : base ≤ i := by
 rcases hi with rfl | hi
 ·
  exact h.own
 ·
  rcases h.row.2 with ⟨rfl, _⟩ | ⟨g, c, cur, rfl, hb, hcur, _⟩
  ·
   cases hi
  ·
   cases hi; exact hb
def setKs (ks : List Dot) (d : Dot) : List Dot := if hasK ks d = true then ks else ks.take (posK ks d) ++ d :: ks.drop (posK ks d)
def setVs (ks : List Dot) (vs : List Value) (d : Dot) (u : Value) : List Value := if hasK ks d = true then vs.set (posK ks d) u else vs.take (posK ks d) ++ u :: vs.drop (posK ks d)
theorem setKs_len {ks : List Dot} {d : Dot} (h : hasK ks d = false) : (setKs ks d).length = ks.length + 1 := by
 unfold setKs
 rw [if_neg (by rw [h]; decide), List.length_append, List.length_cons, List.length_take, List.length_drop]
 have := posK_le ks d
 omega
theorem entsOf_ins {ks : List Dot} {vs : List Value} {d : Dot} {u : Value} (h : hasK ks d = false) (hl : vs.length = ks.length) : entsOf (setKs ks d) (setVs ks vs d u) = (entsOf ks vs).take (posK ks d * 3) ++ entCells d u ++ (entsOf ks vs).drop (posK ks d * 3) := by
 unfold setKs setVs
 rw [if_neg (by rw [h]; decide), if_neg (by rw [h]; decide), entsOf_append (by rw [List.length_take, List.length_take, hl]), entsOf, entsOf_take _ hl, entsOf_drop _ hl, List.append_assoc]
theorem setKs_inc {ks : List Dot} {d : Dot} (h : incB ks = true) : incB (setKs ks d) = true := by
 unfold setKs
 by_cases hh : hasK ks d = true
 ·
  rw [if_pos hh]; exact h
 ·
  rw [if_neg hh]
  have hq : ks[posK ks d]? ≠ some d := fun e => hh (by unfold hasK; exact decide_eq_true e)
  unfold posK at hq ⊢
  clear hh
  induction ks with
  | nil => rfl
  | cons y ks ih =>
   obtain ⟨h1, h2⟩ := incB_tail h
   rw [List.takeWhile_cons] at hq ⊢
   by_cases hy : dotLt y d = true
   ·
    rw [if_pos hy] at hq ⊢
    simp only [List.length_cons, List.take_succ_cons, List.drop_succ_cons, List.cons_append] at hq ⊢
    have hr := ih h1 (by simpa using hq)
    revert hr
    generalize (List.takeWhile (fun k => dotLt k d) ks).length = q
    intro hr
    cases q with
    | zero =>
     simp only [List.take_zero, List.nil_append, List.drop_zero] at hr ⊢
     simp only [incB, hy, Bool.true_and]
     exact hr
    | succ q =>
     cases ks with
     | nil =>
      simp only [List.take_nil, List.nil_append, List.drop_nil] at hr ⊢
      simp only [incB, hy, Bool.true_and]
     | cons z ks =>
      simp only [List.take_succ_cons, List.cons_append] at hr ⊢
      simp only [incB, h2 z List.mem_cons_self, Bool.true_and]
      exact hr
   ·
    rw [if_neg hy] at hq ⊢
    simp only [List.length_nil, List.take_zero, List.nil_append, List.drop_zero] at hq ⊢
    have hne : y ≠ d := fun e => hq (by rw [e]; rfl)
    have : dotLt d y = true := by
     cases hh : dotLt d y with
     | true => rfl
     | false => exact absurd (dotLt_total (by simpa using hy) hh) hne
    simp only [incB, this, Bool.true_and]
    exact h
structure SetF (base : Nat) (w1 : World) (mp : Nat) (v : Value) (ks : List Dot) (vs : List Value) (d : Dot) (u : Value) (l4 l6 l8 l9 l10 l13 : Bool) (g : Nat) (vv : Value) (V : World) : Prop where
 ord8 : l8 = true → l6 = true
 ord9 : l9 = true → l6 = true
 ord10 : l10 = true → l4 = true ∧ l6 = true ∧ l9 = true
 ord13 : l13 = true → l10 = true
 pre : l10 = false → Below w1.heap.size w1 V
 ent : l9 = true → l10 = false → w1.heap.size ≤ g ∧ V.heap[g]? = some (.cells #[.int .i64 d.f0, .int .i64 d.f1, u] 145 (0, 0))
 mid : l10 = true → l13 = false → V.ownsRow base 145 3 vv (ks.length + 1) (entsOf (setKs ks d) (setVs ks vs d u)) ∧ V.heap[mp]? = w1.heap[mp]? ∧ Tch (fun i => v.ownBlock = some i) w1 V
 fin : l13 = true → V.heap[mp]? = some (.cells #[cmpV, vv] 142 (0, 0)) ∧ V.ownsRow base 145 3 vv (ks.length + 1) (entsOf (setKs ks d) (setVs ks vs d u)) ∧ Tch (MapBl mp v) w1 V
theorem SetF.no {base : Nat} {w1 : World} {mp : Nat} {v : Value} {ks : List Dot} {vs : List Value} {d : Dot} {u : Value} {l4 l6 l8 l9 l10 l13 : Bool} {g : Nat} {vv : Value} {V : World} (h : SetF base w1 mp v ks vs d u l4 l6 l8 l9 l10 l13 g vv V) (hl : l4 = false ∨ l6 = false ∨ l9 = false) : l10 = false ∧ l13 = false := by
 have h10 : l10 = false := by
  cases l10 with
  | false => rfl
  | true =>
   obtain ⟨h1, h2, h3⟩ := h.ord10 rfl
   rcases hl with hl | hl | hl
   ·
    rw [hl] at h1; cases h1
   ·
    rw [hl] at h2; cases h2
   ·
    rw [hl] at h3; cases h3
 refine ⟨h10, ?_⟩
 cases l13 with
 | false => rfl
 | true => have := h.ord13 rfl; rw [h10] at this; cases this
theorem set_insert {base mp : Nat} {v : Value} {ks : List Dot} {vs : List Value} {d : Dot} {u : Value} {q : Nat} {w1 V : World} {g : Nat} (hM : MapSt base w1 mp v ks vs) (hf : hasK ks d = false) (hq : posK ks d = q) (hu : u.oneCell' = true) (hb : base ≤ w1.heap.size) (hbw : Below w1.heap.size w1 V) (he : w1.heap.size ≤ g ∧ V.heap[g]? = some (.cells #[.int .i64 d.f0, .int .i64 d.f1, u] 145 (0, 0))) :
  Calls Tryz.prog 102 #[v, .int .i64 q, .slice (some ⟨g, 0, none⟩) 1 1] V fun e V' => ∃ v2, e = .returned v2 ∧ V'.ownsRow base 145 3 v2 (ks.length + 1) (entsOf (setKs ks d) (setVs ks vs d u)) ∧ V'.heap[mp]? = w1.heap[mp]? ∧ Tch (fun i => v.ownBlock = some i) w1 V' := by
 have hM2 := hM.below hbw
 have hql : q ≤ ks.length := by rw [← hq]; exact posK_le ks d
 refine (insert_call base v ks.length q (entsOf ks vs) d u g V hM2.row he.2 ?_ hu (entsOf_one hM.one) hM.small hql (Nat.le_trans hb hbw.size)).mono ?_
 ·
  intro e
  rcases hM.row.2 with ⟨rfl, _⟩ | ⟨g', c, cur, rfl, _, hcur, _⟩
  ·
   cases e
  ·
   have e2 : g = g' := Option.some.inj e
   have := blk_lt hcur
   omega
 ·
  rintro e V' ⟨v2, rfl, ho, hg⟩
  refine ⟨v2, rfl, by rw [entsOf_ins hf hM.len, hq]; exact ho, ?_, (Tch.below hbw).trans (Tch.grown hg (fun r e => e)) (fun i _ e => e)⟩
  exact (hg.block mp (blk_lt hM2.map) (fun e => hM.apart e.symm)).trans (hM2.map.trans hM.map.symm)
theorem ownsRow_slice {base e size n : Nat} {v : Value} {xs : List Value} {W : World} (h : W.ownsRow base e size v n xs) : ∃ A c, v = .slice A n c := by
 rcases h.2 with ⟨rfl, rfl⟩ | ⟨g, c, cur, rfl, _⟩
 ·
  exact ⟨none, 0, rfl⟩
 ·
  exact ⟨_, _, rfl⟩
theorem set_store {base mp n : Nat} {v vv : Value} {xs : List Value} {w1 V : World} (hr : V.ownsRow base 145 3 vv n xs) (hm : V.heap[mp]? = some (.cells #[cmpV, v] 142 (0, 0))) (ht : Tch (fun i => v.ownBlock = some i) w1 V) :
  (V.setCell ⟨mp, 1, none⟩ vv).heap[mp]? = some (.cells #[cmpV, vv] 142 (0, 0)) ∧ (V.setCell ⟨mp, 1, none⟩ vv).ownsRow base 145 3 vv n xs ∧ Tch (MapBl mp v) w1 (V.setCell ⟨mp, 1, none⟩ vv) := by
 have hgr : V.grownBy (V.setCell ⟨mp, 1, none⟩ vv) (some mp) := ⟨rfl, rfl, rfl, by rw [World.size_setCell]; exact Nat.le_refl _, fun k hk hne => Below.heap_setCell V _ _ k (fun e => hne (by rw [e]))⟩
 refine ⟨blk_set hm 1 vv, ownsRow_keep hr (fun g hg => ?_), Tch.trans (E := MapBl mp v) (ht.mono (fun i _ h => Or.inr h)) (Tch.grown hgr (E := fun i => mp = i) (fun r e => Option.some.inj e)) (fun i _ e => Or.inl e.symm)⟩
 refine Below.heap_setCell V _ _ g (fun e => ?_)
 rcases hr.2 with ⟨rfl, _⟩ | ⟨g', c, cur, rfl, _, hcur, _⟩
 ·
  cases hg
 ·
  cases hg
  rw [show g' = mp from e, hm] at hcur
  exact absurd (Obj.cells.inj (Option.some.inj hcur)).2.1 (by decide)
def setInv (base : Nat) (w1 : World) (B mp : Nat) (v : Value) (ks : List Dot) (vs : List Value) (d : Dot) (q : Nat) (Au : Option Addr) (nu cu : Nat) (z9 z10 z11 z12 z13 z14 z15 z16 z17 z18 z19 z20 : Value) (L : Array Bool) (ac : Act) (V : World) : Prop := ∃ (l0 l1 l2 l3 l4 l5 l6 l7 l8 l9 l10 l11 l12 l13 : Bool) (g : Nat) (vv : Value), L = #[l0, l1, l2, l3, l4, l5, l6, l7, l8, l9, l10, l11, l12, l13] ∧ ac = { tmps := #[.pointer (some ⟨mp, 0, none⟩), vDot d, .slice Au nu cu, undef, .pointer (some ⟨B, 0, none⟩), undef, .slice none 0 0, .bool false, .int .i64 q, z9, z10, z11, z12, z13, z14, z15, z16, z17, z18, z19, z20, sel l0 (.pointer (some ⟨mp, 0, none⟩)), sel l1 (.pointer (some ⟨mp, 0, none⟩)), sel l2 (.pointer (some ⟨mp, 0, none⟩)), sel l3 (.pointer (some ⟨mp, 1, none⟩)), sel l4 (v), sel l5 (.int .i64 q), sel l6 (vDot d), sel l7 (.slice Au nu cu), sel l8 (vEnt d (.slice Au nu cu)), sel l9 (.slice (some ⟨g, 0, none⟩) 1 1), sel l10 (vv), sel l11 (.pointer (some ⟨mp, 0, none⟩)), sel l12 (.pointer (some ⟨mp, 1, none⟩)), undef, undef, undef, undef, undef, undef, undef, undef, undef, undef, undef, undef, undef, undef, undef, undef, undef, undef], defers := [] } ∧ Aside0 (SetF base w1 mp v ks vs d (.slice Au nu cu) l4 l6 l8 l9 l10 l13 g vv V)
set_option maxHeartbeats 2000000 in
set_option maxRecDepth 100000 in
theorem set_call (base mp : Nat) (v : Value) (ks : List Dot) (vs : List Value) (d : Dot) (Au : Option Addr) (nu cu : Nat) (w : World) (h : MapSt base w mp v ks vs) (hn : ks.length < 1000000) (hb : base ≤ w.heap.size) :
  Calls Tryz.prog 81 #[.pointer (some ⟨mp, 0, none⟩), vDot d, .slice Au nu cu] w fun e w' => ∃ r v', e = .returned r ∧ MapSt base w' mp v' (setKs ks d) (setVs ks vs d (.slice Au nu cu)) ∧ Tch (MapBl mp v) w w' := by
 have HM : Aside0 (MapSt base (w.alloc (.cells #[.int .i64 d.f0, .int .i64 d.f1] 33 (0, 0))) mp v ks vs) := ⟨h.below (Gr.alloc w _).below⟩
 have HK : Aside0 ((w.alloc (.cells #[.int .i64 d.f0, .int .i64 d.f1] 33 (0, 0))).heap[w.heap.size]? = some (.cells #[.int .i64 d.f0, .int .i64 d.f1] 33 (0, 0))) := ⟨blk_new _ _⟩
 have HB : Aside0 (Below w.heap.size w (w.alloc (.cells #[.int .i64 d.f0, .int .i64 d.f1] 33 (0, 0)))) := ⟨(Gr.alloc w _).below⟩
 have HBS := Aside0.mk hb
 have HN := Aside0.mk hn
 have hc0 : (w.alloc (.cells #[.int .i64 d.f0, .int .i64 d.f1] 33 (0, 0))).cell? ⟨w.heap.size, 0, none⟩ = _ := (blk_cell HK.out 0).trans rfl
 have hc1 : (w.alloc (.cells #[.int .i64 d.f0, .int .i64 d.f1] 33 (0, 0))).cell? ⟨w.heap.size, 1, none⟩ = _ := (blk_cell HK.out 1).trans rfl
 clear h hn hb
 obtain ⟨q, HQ⟩ : ∃ q, Aside0 (posK ks d = q) := ⟨_, ⟨rfl⟩⟩
 obtain ⟨hf, HHF⟩ : ∃ hf, Aside0 (hasK ks d = hf) := ⟨_, ⟨rfl⟩⟩
 go_enter Tryz.func81, Tryz.ntmps81
 go_wp2_with fail
 refine (zero_call mp _ _ HM.out.map).mono ?_
 rintro e w1 ⟨rfl, rfl⟩
 go_wp2_with fail
 obtain ⟨A, c, hv, hents⟩ := HM.out.ents
 have hfind := find_call mp ks vs A ks.length c d _ HM.out.inc hents (by rw [← hv]; exact HM.out.map)
 refine hfind.mono ?_
 clear hfind hents hc0 hc1
 rintro e w1 ⟨rfl, hb⟩
 have HM := Aside0.mk (HM.out.below hb)
 have HK := Aside0.mk (blk_keep HK.out hb)
 have HB := Aside0.mk (below_more HB.out hb)
 rw [HQ.out, HHF.out]
 clear hb
 cases hf with
 | true =>
  have HQN : Aside0 (q < ks.length) := ⟨by have := hasK_lt HHF.out; rwa [HQ.out] at this⟩
  have hqn := HQN.out
  clear hv
  obtain ⟨A, c, rfl, hents⟩ := HM.out.ents
  obtain ⟨k', v', eb, hk, hvk, hv1, rfl, c0, c1, c2⟩ := hents.get HQN.out
  have hm1 : w1.cell? ⟨mp, 1, none⟩ = _ := (blk_cell HM.out.map 1).trans rfl
  have hrow := HM.out.row
  rcases hrow.2 with ⟨h, _⟩ | ⟨g', c', cur, he, hbg, hcur, hle, hmx, hsz, htk⟩
  ·
   cases h
  cases he
  have hfz := blk_frozen hcur (q * 3 + 2)
  have HEND : Aside0 (MapSt base (w1.setCell ⟨eb, q * 3 + 2, none⟩ (.slice Au nu cu)) mp (.slice (some ⟨eb, 0, none⟩) ks.length c) (setKs ks d) (setVs ks vs d (.slice Au nu cu)) ∧ Tch (MapBl mp (.slice (some ⟨eb, 0, none⟩) ks.length c)) w (w1.setCell ⟨eb, q * 3 + 2, none⟩ (.slice Au nu cu))) := ⟨by
   have hgr : w1.grownBy (w1.setCell ⟨eb, q * 3 + 2, none⟩ (.slice Au nu cu)) (some eb) := ⟨rfl, rfl, rfl, by rw [World.size_setCell]; exact Nat.le_refl _, fun k hk hne => Below.heap_setCell w1 _ _ k (fun e => hne (by rw [e]))⟩
   have hne : mp ≠ eb := fun e => HM.out.apart (by rw [e]; rfl)
   have hlen : (vs.set q (.slice Au nu cu)).length = ks.length := by rw [List.length_set]; exact HM.out.len
   have hks : setKs ks d = ks := by unfold setKs; rw [if_pos HHF.out]
   have hvs : setVs ks vs d (.slice Au nu cu) = vs.set q (.slice Au nu cu) := by unfold setVs; rw [if_pos HHF.out, HQ.out]
   rw [hks, hvs]
   refine ⟨⟨(hgr.block mp (blk_lt HM.out.map) (fun e => hne (Option.some.inj e))).trans HM.out.map, HM.out.own, ⟨entsOf_length hlen, .inr ⟨eb, c, _, rfl, hbg, blk_set hcur (q * 3 + 2) _, hle, hmx, by rw [Array.size_setIfInBounds]; exact hsz, ?_⟩⟩, hlen, HM.out.small, ?_, HM.out.inc⟩, ?_⟩
   ·
    rw [Array.toList_setIfInBounds, List.take_set, htk, entsOf_set HM.out.len hk]
   ·
    intro x hx
    rcases List.mem_or_eq_of_mem_set hx with hx | rfl
    ·
     exact HM.out.one x hx
    ·
     rfl
   ·
    exact (Tch.below HB.out).trans (Tch.grown hgr (E := fun i => eb = i) (fun r e => by cases e; rfl)) (fun i _ e => .inr (by subst e; rfl))⟩
  clear hfz hcur htk hsz hrow hents hk hvk hv1 HK HB c0 c1
  have hfz : w1.frozen? ⟨eb, q * 3 + 2, none⟩ = false := by
   rcases HM.out.row.2 with ⟨h, _⟩ | ⟨g', c', cur, he, _, hcur, _⟩
   ·
    cases h
   ·
    cases he; exact blk_frozen hcur _
  go_wp2
  refine bodyPost_ret (results_tmp2 rfl _ _ _) rfl ?_
  exact ⟨_, _, rfl, HEND.out⟩
 | false =>
  have HW1 : Aside0 (base ≤ w1.heap.size) := ⟨Nat.le_trans HBS.out HB.out.size⟩
  clear hv
  go_wp2_with fail
  refine AnyOrder.wp_region (by kernel_rfl) (setInv base w1 w.heap.size mp v ks vs d q Au nu cu _ _ _ _ _ _ _ _ _ _ _ _) ⟨false, false, false, false, false, false, false, false, false, false, false, false, false, false, 0, undef, rfl, rfl, ⟨⟨fun h => (by cases h), fun h => (by cases h), fun h => (by cases h), fun h => (by cases h), fun _ => below_drew1 (Below.refl _ _), fun h => (by cases h), fun h => (by cases h), fun h => (by cases h)⟩⟩⟩ ?step ?last
  case step =>
   rintro L ac V i ⟨l0, l1, l2, l3, l4, l5, l6, l7, l8, l9, l10, l11, l12, l13, g, vv, rfl, rfl, HF⟩ hi K hK
   have h1 : i = 0 ∨ i = 1 ∨ i = 2 ∨ i = 3 ∨ i = 4 ∨ i = 5 ∨ i = 6 ∨ i = 7 ∨ i = 8 ∨ i = 9 ∨ i = 10 ∨ i = 11 ∨ i = 12 ∨ i = 13 := by
    have h1 := (AnyOrder.mem_ready hi).1
    clear hi hK
    change i < 14 at h1
    omega
   rcases h1 with rfl | rfl | rfl | rfl | rfl | rfl | rfl | rfl | rfl | rfl | rfl | rfl | rfl | rfl
   ·
    obtain rfl : l0 = false := (AnyOrder.mem_ready hi).2.1
    clear hi
    refine AnyOrder.wpOp_go rfl (by rfl) ?_
    go_wp2_with fail
    exact ⟨true, l1, l2, l3, l4, l5, l6, l7, l8, l9, l10, l11, l12, l13, g, vv, rfl, rfl, HF⟩
   ·
    obtain rfl : l1 = false := (AnyOrder.mem_ready hi).2.1
    clear hi
    refine AnyOrder.wpOp_go rfl (by rfl) ?_
    go_wp2_with fail
    exact ⟨l0, true, l2, l3, l4, l5, l6, l7, l8, l9, l10, l11, l12, l13, g, vv, rfl, rfl, HF⟩
   ·
    obtain rfl : l2 = false := (AnyOrder.mem_ready hi).2.1
    obtain rfl : l1 = true := AnyOrder.dep (q := 0) hi rfl rfl rfl
    clear hi
    simp only [sel_true, selv_true] at hK ⊢
    refine AnyOrder.wpOp_go rfl (by rfl) ?_
    go_wp2_with fail
    exact ⟨l0, true, true, l3, l4, l5, l6, l7, l8, l9, l10, l11, l12, l13, g, vv, rfl, rfl, HF⟩
   ·
    obtain rfl : l3 = false := (AnyOrder.mem_ready hi).2.1
    obtain rfl : l2 = true := AnyOrder.dep (q := 0) hi rfl rfl rfl
    clear hi
    simp only [sel_true, selv_true] at hK ⊢
    refine AnyOrder.wpOp_go rfl (by rfl) ?_
    go_wp2_with fail
    exact ⟨l0, l1, true, true, l4, l5, l6, l7, l8, l9, l10, l11, l12, l13, g, vv, rfl, rfl, HF⟩
   ·
    obtain rfl : l4 = false := (AnyOrder.mem_ready hi).2.1
    obtain rfl : l3 = true := AnyOrder.dep (q := 0) hi rfl rfl rfl
    clear hi
    simp only [sel_true, selv_true] at hK ⊢
    obtain ⟨rfl, rfl⟩ := HF.out.no (.inl rfl)
    simp only [sel_false] at hK ⊢
    have hbw := HF.out.pre rfl
    have hm1 : V.cell? ⟨mp, 1, none⟩ = _ := (blk_cell (blk_keep HM.out.map hbw) 1).trans rfl
    refine AnyOrder.wpOp_go rfl (by rfl) ?_
    go_wp2_with fail
    exact ⟨l0, l1, l2, true, true, l5, l6, l7, l8, l9, false, l11, l12, false, g, vv, rfl, rfl, ⟨⟨HF.out.ord8, HF.out.ord9, fun h => (by cases h), fun h => (by cases h), HF.out.pre, HF.out.ent, fun h => (by cases h), fun h => (by cases h)⟩⟩⟩
   ·
    obtain rfl : l5 = false := (AnyOrder.mem_ready hi).2.1
    clear hi
    refine AnyOrder.wpOp_go rfl (by rfl) ?_
    go_wp2_with fail
    exact ⟨l0, l1, l2, l3, l4, true, l6, l7, l8, l9, l10, l11, l12, l13, g, vv, rfl, rfl, HF⟩
   ·
    obtain rfl : l6 = false := (AnyOrder.mem_ready hi).2.1
    clear hi
    obtain ⟨rfl, rfl⟩ := HF.out.no (.inr (.inl rfl))
    simp only [sel_false] at hK ⊢
    have hbw := HF.out.pre rfl
    have hk0 : V.cell? ⟨w.heap.size, 0, none⟩ = _ := (blk_cell (blk_keep HK.out hbw) 0).trans rfl
    have hk1 : V.cell? ⟨w.heap.size, 1, none⟩ = _ := (blk_cell (blk_keep HK.out hbw) 1).trans rfl
    refine AnyOrder.wpOp_go rfl (by rfl) ?_
    go_wp2_with fail
    exact ⟨l0, l1, l2, l3, l4, l5, true, l7, l8, l9, false, l11, l12, false, g, vv, rfl, rfl, ⟨⟨fun _ => rfl, fun _ => rfl, fun h => (by cases h), fun h => (by cases h), HF.out.pre, HF.out.ent, fun h => (by cases h), fun h => (by cases h)⟩⟩⟩
   ·
    obtain rfl : l7 = false := (AnyOrder.mem_ready hi).2.1
    clear hi
    refine AnyOrder.wpOp_go rfl (by rfl) ?_
    go_wp2_with fail
    exact ⟨l0, l1, l2, l3, l4, l5, l6, true, l8, l9, l10, l11, l12, l13, g, vv, rfl, rfl, HF⟩
   ·
    obtain rfl : l8 = false := (AnyOrder.mem_ready hi).2.1
    obtain rfl : l6 = true := AnyOrder.dep (q := 0) hi rfl rfl rfl
    obtain rfl : l7 = true := AnyOrder.dep (q := 1) hi rfl rfl rfl
    clear hi
    simp only [sel_true, selv_true] at hK ⊢
    refine AnyOrder.wpOp_go rfl (by rfl) ?_
    go_wp2_with fail
    exact ⟨l0, l1, l2, l3, l4, l5, true, true, true, l9, l10, l11, l12, l13, g, vv, rfl, rfl, ⟨⟨fun _ => rfl, HF.out.ord9, HF.out.ord10, HF.out.ord13, HF.out.pre, HF.out.ent, HF.out.mid, HF.out.fin⟩⟩⟩
   ·
    obtain rfl : l9 = false := (AnyOrder.mem_ready hi).2.1
    obtain rfl : l8 = true := AnyOrder.dep (q := 0) hi rfl rfl rfl
    clear hi
    simp only [sel_true, selv_true] at hK ⊢
    obtain ⟨rfl, rfl⟩ := HF.out.no (.inr (.inr rfl))
    simp only [sel_false] at hK ⊢
    refine AnyOrder.wpOp_go rfl (by rfl) ?_
    go_wp2_with fail
    exact ⟨l0, l1, l2, l3, l4, l5, l6, l7, true, true, false, l11, l12, false, V.heap.size, vv, rfl, rfl, ⟨⟨HF.out.ord8, fun _ => HF.out.ord8 rfl, fun h => (by cases h), fun h => (by cases h), fun _ => below_more (HF.out.pre rfl) ((Below.refl _ V).alloc (Nat.le_refl _) _), fun _ _ => ⟨(HF.out.pre rfl).size, blk_new _ _⟩, fun h => (by cases h), fun h => (by cases h)⟩⟩⟩
   ·
    obtain rfl : l10 = false := (AnyOrder.mem_ready hi).2.1
    obtain rfl : l4 = true := AnyOrder.dep (q := 0) hi rfl rfl rfl
    obtain rfl : l5 = true := AnyOrder.dep (q := 1) hi rfl rfl rfl
    obtain rfl : l9 = true := AnyOrder.dep (q := 2) hi rfl rfl rfl
    clear hi
    simp only [sel_true, selv_true] at hK ⊢
    obtain rfl : l13 = false := by cases l13 with | false => rfl | true => cases HF.out.ord13 rfl
    refine AnyOrder.wpOp_go rfl (by rfl) ?_
    go_wp2_with fail
    refine (set_insert HM.out HHF.out HQ.out rfl HW1.out (HF.out.pre rfl) (HF.out.ent rfl rfl)).mono ?_
    rintro e V' ⟨v2, rfl, hmid⟩
    exact hK _ _ ⟨l0, l1, l2, l3, true, true, l6, l7, l8, true, true, l11, l12, false, g, v2, rfl, rfl, ⟨⟨HF.out.ord8, HF.out.ord9, fun _ => ⟨rfl, HF.out.ord9 rfl, rfl⟩, fun h => (by cases h), fun h => (by cases h), fun _ h => (by cases h), fun _ _ => hmid, fun h => (by cases h)⟩⟩⟩
   ·
    obtain rfl : l11 = false := (AnyOrder.mem_ready hi).2.1
    obtain rfl : l0 = true := AnyOrder.dep (q := 0) hi rfl rfl rfl
    obtain rfl : l1 = true := AnyOrder.dep (q := 2) hi rfl rfl rfl
    obtain rfl : l2 = true := AnyOrder.dep (q := 3) hi rfl rfl rfl
    obtain rfl : l3 = true := AnyOrder.dep (q := 4) hi rfl rfl rfl
    obtain rfl : l4 = true := AnyOrder.dep (q := 5) hi rfl rfl rfl
    obtain rfl : l5 = true := AnyOrder.dep (q := 6) hi rfl rfl rfl
    obtain rfl : l6 = true := AnyOrder.dep (q := 7) hi rfl rfl rfl
    obtain rfl : l7 = true := AnyOrder.dep (q := 8) hi rfl rfl rfl
    obtain rfl : l8 = true := AnyOrder.dep (q := 9) hi rfl rfl rfl
    obtain rfl : l9 = true := AnyOrder.dep (q := 10) hi rfl rfl rfl
    obtain rfl : l10 = true := AnyOrder.dep (q := 11) hi rfl rfl rfl
    clear hi
    simp only [sel_true, selv_true] at hK ⊢
    refine AnyOrder.wpOp_go rfl (by rfl) ?_
    go_wp2_with fail
    exact ⟨true, true, true, true, true, true, true, true, true, true, true, true, l12, l13, g, vv, rfl, rfl, HF⟩
   ·
    obtain rfl : l12 = false := (AnyOrder.mem_ready hi).2.1
    obtain rfl : l11 = true := AnyOrder.dep (q := 0) hi rfl rfl rfl
    obtain rfl : l0 = true := AnyOrder.dep (q := 1) hi rfl rfl rfl
    obtain rfl : l1 = true := AnyOrder.dep (q := 2) hi rfl rfl rfl
    obtain rfl : l2 = true := AnyOrder.dep (q := 3) hi rfl rfl rfl
    obtain rfl : l3 = true := AnyOrder.dep (q := 4) hi rfl rfl rfl
    obtain rfl : l4 = true := AnyOrder.dep (q := 5) hi rfl rfl rfl
    obtain rfl : l5 = true := AnyOrder.dep (q := 6) hi rfl rfl rfl
    obtain rfl : l6 = true := AnyOrder.dep (q := 7) hi rfl rfl rfl
    obtain rfl : l7 = true := AnyOrder.dep (q := 8) hi rfl rfl rfl
    obtain rfl : l8 = true := AnyOrder.dep (q := 9) hi rfl rfl rfl
    obtain rfl : l9 = true := AnyOrder.dep (q := 10) hi rfl rfl rfl
    obtain rfl : l10 = true := AnyOrder.dep (q := 11) hi rfl rfl rfl
    clear hi
    simp only [sel_true, selv_true] at hK ⊢
    refine AnyOrder.wpOp_go rfl (by rfl) ?_
    go_wp2_with fail
    exact ⟨true, true, true, true, true, true, true, true, true, true, true, true, true, l13, g, vv, rfl, rfl, HF⟩
   ·
    obtain rfl : l13 = false := (AnyOrder.mem_ready hi).2.1
    obtain rfl : l12 = true := AnyOrder.dep (q := 0) hi rfl rfl rfl
    obtain rfl : l10 = true := AnyOrder.dep (q := 1) hi rfl rfl rfl
    obtain rfl : l0 = true := AnyOrder.dep (q := 3) hi rfl rfl rfl
    obtain rfl : l1 = true := AnyOrder.dep (q := 4) hi rfl rfl rfl
    obtain rfl : l2 = true := AnyOrder.dep (q := 5) hi rfl rfl rfl
    obtain rfl : l3 = true := AnyOrder.dep (q := 6) hi rfl rfl rfl
    obtain rfl : l4 = true := AnyOrder.dep (q := 7) hi rfl rfl rfl
    obtain rfl : l5 = true := AnyOrder.dep (q := 8) hi rfl rfl rfl
    obtain rfl : l6 = true := AnyOrder.dep (q := 9) hi rfl rfl rfl
    obtain rfl : l7 = true := AnyOrder.dep (q := 10) hi rfl rfl rfl
    obtain rfl : l8 = true := AnyOrder.dep (q := 11) hi rfl rfl rfl
    obtain rfl : l9 = true := AnyOrder.dep (q := 12) hi rfl rfl rfl
    clear hi
    simp only [sel_true, selv_true] at hK ⊢
    obtain ⟨hmr, hmm, hmt⟩ := HF.out.mid rfl rfl
    obtain ⟨Av, cv, rfl⟩ := ownsRow_slice hmr
    have hmap := hmm.trans HM.out.map
    have hm1 : V.cell? ⟨mp, 1, none⟩ = _ := (blk_cell hmap 1).trans rfl
    have hf1 := blk_frozen hmap 1
    have HF2 := Aside0.mk (set_store hmr hmap hmt)
    clear hmr hmm hmt hmap
    refine AnyOrder.wpOp_go rfl (by rfl) ?_
    go_wp2_with fail
    exact ⟨true, true, true, true, true, true, true, true, true, true, true, l11, true, true, g, (.slice Av (ks.length + 1) cv), rfl, rfl, ⟨⟨fun _ => rfl, fun _ => rfl, fun _ => ⟨rfl, rfl, rfl⟩, fun _ => rfl, fun h => (by cases h), fun _ h => (by cases h), fun _ h => (by cases h), fun _ => HF2.out⟩⟩⟩
  case last =>
   rintro L ac V ⟨l0, l1, l2, l3, l4, l5, l6, l7, l8, l9, l10, l11, l12, l13, g, vv, rfl, rfl, HF⟩ hr
   have hall := AnyOrder.all_listed rfl (by kernel_rfl) hr
   clear hr
   obtain rfl : l0 = true := hall 0 (by decide)
   obtain rfl : l1 = true := hall 1 (by decide)
   obtain rfl : l2 = true := hall 2 (by decide)
   obtain rfl : l3 = true := hall 3 (by decide)
   obtain rfl : l4 = true := hall 4 (by decide)
   obtain rfl : l5 = true := hall 5 (by decide)
   obtain rfl : l6 = true := hall 6 (by decide)
   obtain rfl : l7 = true := hall 7 (by decide)
   obtain rfl : l8 = true := hall 8 (by decide)
   obtain rfl : l9 = true := hall 9 (by decide)
   obtain rfl : l10 = true := hall 10 (by decide)
   obtain rfl : l11 = true := hall 11 (by decide)
   obtain rfl : l12 = true := hall 12 (by decide)
   obtain rfl : l13 = true := hall 13 (by decide)
   clear hall
   simp only [sel_true, selv_true]
   have HEND : Aside0 (MapSt base V mp vv (setKs ks d) (setVs ks vs d (.slice Au nu cu)) ∧ Tch (MapBl mp v) w V) := ⟨by
    obtain ⟨hm, hr, ht⟩ := HF.out.fin rfl
    have hl : (setVs ks vs d (.slice Au nu cu)).length = (setKs ks d).length := by
     rw [setKs_len HHF.out]
     unfold setVs
     rw [if_neg (by rw [HHF.out]; decide), List.length_append, List.length_cons, List.length_take, List.length_drop, HM.out.len]
     have := posK_le ks d
     omega
    refine ⟨⟨hm, HM.out.own, by rw [setKs_len HHF.out]; exact hr, hl, by rw [setKs_len HHF.out]; exact HN.out, ?_, setKs_inc HM.out.inc⟩, (Tch.below HB.out).trans ht (fun i _ e => e)⟩
    intro x hx
    unfold setVs at hx
    rw [if_neg (by rw [HHF.out]; decide)] at hx
    rcases List.mem_append.1 hx with hx | hx
    ·
     exact HM.out.one x (List.mem_of_mem_take hx)
    ·
     rcases List.mem_cons.1 hx with rfl | hx
     ·
      rfl
     ·
      exact HM.out.one x (List.mem_of_mem_drop hx)⟩
   go_wp2
   refine bodyPost_ret (results_tmp2 rfl _ _ _) rfl ?_
   exact ⟨_, _, rfl, HEND.out⟩
theorem hasK_iff {ks : List Dot} (h : incB ks = true) (d : Dot) : hasK ks d = true ↔ d ∈ ks := by
 unfold hasK posK
 rw [decide_eq_true_eq]
 induction ks with
 | nil => simp
 | cons y ks ih =>
  obtain ⟨h1, h2⟩ := incB_tail h
  rw [List.takeWhile_cons]
  by_cases hy : dotLt y d = true
  ·
   rw [if_pos hy, List.length_cons, List.getElem?_cons_succ, ih h1, List.mem_cons]
   constructor
   ·
    exact .inr
   ·
    rintro (rfl | h)
    ·
     rw [dotLt_irrefl] at hy; cases hy
    ·
     exact h
  ·
   rw [if_neg hy, List.length_nil, List.getElem?_cons_zero, List.mem_cons]
   constructor
   ·
    intro e; exact .inl (Option.some.inj e).symm
   ·
    rintro (rfl | h)
    ·
     rfl
    ·
     exact absurd (h2 d h) hy
theorem incB_nodup {ks : List Dot} (h : incB ks = true) : ks.Nodup := by
 induction ks with
 | nil => exact List.nodup_nil
 | cons y ks ih =>
  obtain ⟨h1, h2⟩ := incB_tail h
  exact List.nodup_cons.2 ⟨fun hm => (by have := h2 y hm; rw [dotLt_irrefl] at this; cases this), ih h1⟩
/-- How a key is set. -/
theorem set_split {ks : List Dot} {vs : List Value} (hi : incB ks = true) (hl : vs.length = ks.length) (d : Dot) (u : Value) :
  ∃ K1 K2 V1 V2, V1.length = K1.length ∧ setKs ks d = K1 ++ d :: K2 ∧ setVs ks vs d u = V1 ++ u :: V2 ∧ d ∉ K1 ∧ d ∉ K2 ∧
   ((d ∈ ks ∧ ks = K1 ++ d :: K2 ∧ vs = V1 ++ getV ks vs d :: V2) ∨ (d ∉ ks ∧ ks = K1 ++ K2 ∧ vs = V1 ++ V2 ∧ getV ks vs d = .slice none 0 0)) := by
 by_cases hh : hasK ks d = true
 ·
  have hq := hasK_lt hh
  have hk : ks[posK ks d]? = some d := of_decide_eq_true hh
  have hkd : ks = ks.take (posK ks d) ++ d :: ks.drop (posK ks d + 1) := by
   have := (List.getElem?_eq_some_iff.1 hk).2
   conv => lhs; rw [← List.take_append_drop (posK ks d) ks, List.drop_eq_getElem_cons hq, this]
  have hv : vs = vs.take (posK ks d) ++ getV ks vs d :: vs.drop (posK ks d + 1) := by
   have hqv : posK ks d < vs.length := by omega
   unfold getV
   rw [if_pos hh, List.getElem?_eq_getElem hqv]
   conv => lhs; rw [← List.take_append_drop (posK ks d) vs, List.drop_eq_getElem_cons hqv]
   rfl
  have hnd := incB_nodup hi
  rw [hkd] at hnd
  obtain ⟨_, hn2, hn3⟩ := List.nodup_append.1 hnd
  refine ⟨_, _, _, _, ?_, ?_, ?_, ?_, ?_, .inl ⟨(hasK_iff hi d).1 hh, hkd, hv⟩⟩
  ·
   rw [List.length_take, List.length_take, hl]
  ·
   unfold setKs; rw [if_pos hh]; exact hkd
  ·
   unfold setVs; rw [if_pos hh, List.set_eq_take_append_cons_drop, if_pos (by omega)]
  ·
   exact fun hm => hn3 d hm d List.mem_cons_self rfl
  ·
   exact (List.nodup_cons.1 hn2).1
 ·
  have hm : d ∉ ks := fun h => hh ((hasK_iff hi d).2 h)
  refine ⟨ks.take (posK ks d), ks.drop (posK ks d), vs.take (posK ks d), vs.drop (posK ks d), ?_, ?_, ?_, fun h => hm (List.mem_of_mem_take h), fun h => hm (List.mem_of_mem_drop h), .inr ⟨hm, (List.take_append_drop _ _).symm, (List.take_append_drop _ _).symm, ?_⟩⟩
  ·
   rw [List.length_take, List.length_take, hl]
  ·
   unfold setKs; rw [if_neg hh]
  ·
   unfold setVs; rw [if_neg hh]
  ·
   unfold getV; rw [if_neg hh]
/-- Two values don't share a block. -/
def Sep (a b : Value) : Prop := ∀ g, a.ownBlock = some g → b.ownBlock ≠ some g
theorem Sep.symm {a b : Value} (h : Sep a b) : Sep b a := fun g hb ha => h g ha hb
abbrev RN (W : World) (base : Nat) (u : Value) (xs : List Node) : Prop := Kd.R k35 35 W base (fun _ => True) u xs
structure FamSt (base : Nat) (W : World) (mp : Nat) (v : Value) (ks : List Dot) (vs : List Value) (fam : Dot → List Node) : Prop where
 map : MapSt base W mp v ks vs
 rows : ∀ d u, (d, u) ∈ ks.zip vs → RN W base u (fam d)
 sep : vs.Pairwise Sep
 none : ∀ d, d ∉ ks → fam d = []
theorem RN.keep {W V : World} {base : Nat} {u : Value} {xs : List Node} (h : RN W base u xs) (hk : ∀ g, u.ownBlock = some g → V.heap[g]? = W.heap[g]?) : RN V base u xs := by
 have ho := cells_of_R h
 exact R_of_cells (ownsRow_keep ho hk) (fun _ _ => trivial)
theorem RN.block {W : World} {base : Nat} {u : Value} {xs : List Node} (h : RN W base u xs) {g : Nat} (hg : u.ownBlock = some g) : base ≤ g ∧ ∃ cur, W.heap[g]? = some (.cells cur 35 (0, 0)) := by
 rcases (cells_of_R h).2 with ⟨rfl, _⟩ | ⟨g', c, cur, rfl, hb, hcur, _⟩
 ·
  cases hg
 ·
  cases hg; exact ⟨hb, cur, hcur⟩
theorem RN.lt {W : World} {base : Nat} {u : Value} {xs : List Node} (h : RN W base u xs) {g : Nat} (hg : u.ownBlock = some g) : g < W.heap.size := by
 obtain ⟨_, cur, h1⟩ := h.block hg
 exact blk_lt h1
theorem MapSt.not_row {base : Nat} {W : World} {mp : Nat} {v : Value} {ks : List Dot} {vs : List Value} (h : MapSt base W mp v ks vs) {g : Nat} {cur : Array Value} (hg : W.heap[g]? = some (.cells cur 35 (0, 0))) : ¬ MapBl mp v g := by
 rintro (rfl | e)
 ·
  rw [h.map] at hg
  exact absurd (Obj.cells.inj (Option.some.inj hg)).2.1 (by decide)
 ·
  rcases h.row.2 with ⟨rfl, _⟩ | ⟨g', c, cur', rfl, _, hcur, _⟩
  ·
   cases e
  ·
   cases e
   rw [hcur] at hg
   exact absurd (Obj.cells.inj (Option.some.inj hg)).2.1 (by decide)
theorem FamSt.below {base : Nat} {W V : World} {mp : Nat} {v : Value} {ks : List Dot} {vs : List Value} {fam : Dot → List Node} (h : FamSt base W mp v ks vs fam) (hb : Below W.heap.size W V) : FamSt base V mp v ks vs fam :=
 ⟨h.map.below hb, fun d u hm => (h.rows d u hm).keep (fun g hg => hb.block g ((h.rows d u hm).lt hg)), h.sep, h.none⟩
theorem zip_mid {K1 K2 : List Dot} {V1 V2 : List Value} {d : Dot} {u : Value} (hl : V1.length = K1.length) : (K1 ++ d :: K2).zip (V1 ++ u :: V2) = K1.zip V1 ++ (d, u) :: K2.zip V2 := by
 rw [List.zip_append hl.symm]; rfl
theorem FamSt.getR {base : Nat} {W : World} {mp : Nat} {v : Value} {ks : List Dot} {vs : List Value} {fam : Dot → List Node} (h : FamSt base W mp v ks vs fam) (d : Dot) : RN W base (getV ks vs d) (fam d) := by
 obtain ⟨K1, K2, V1, V2, hl, _, _, _, _, (⟨_, hk, hv⟩ | ⟨hm, _, _, hg⟩)⟩ := set_split h.map.inc h.map.len d undef
 ·
  refine h.rows d _ ?_
  have : (d, getV ks vs d) ∈ (K1 ++ d :: K2).zip (V1 ++ getV ks vs d :: V2) := by rw [zip_mid hl]; simp
  rw [← hk, ← hv] at this
  exact this
 ·
  rw [hg, h.none d hm]
  exact Kd.R_nil _ _ _ _ _
/-- One row is put in the place of a key's: the others are as they were. -/
theorem FamSt.set {base : Nat} {W V : World} {mp : Nat} {v v' : Value} {ks : List Dot} {vs : List Value} {fam : Dot → List Node} (h : FamSt base W mp v ks vs fam) {d : Dot} {u : Value} {ys : List Node}
  (hm : MapSt base V mp v' (setKs ks d) (setVs ks vs d u)) (hu : RN V base u ys) (ht : ∀ g, g < W.heap.size → (getV ks vs d).ownBlock ≠ some g → (∃ cur, W.heap[g]? = some (.cells cur 35 (0, 0))) → V.heap[g]? = W.heap[g]?)
  (hub : u.ownBlock = (getV ks vs d).ownBlock ∨ ∃ b, u.ownBlock = some b ∧ W.heap.size ≤ b) : FamSt base V mp v' (setKs ks d) (setVs ks vs d u) (fun e => if e = d then ys else fam e) := by
 obtain ⟨K1, K2, V1, V2, hl, e1, e2, hn1, hn2, hc⟩ := set_split h.map.inc h.map.len d u
 have hrest : ∀ e a, ((e, a) ∈ K1.zip V1 ∨ (e, a) ∈ K2.zip V2) → (e, a) ∈ ks.zip vs ∧ e ≠ d ∧ Sep (getV ks vs d) a := by
  intro e a hea
  have hed : e ≠ d := by
   rintro rfl
   rcases hea with hea | hea
   ·
    exact hn1 (List.of_mem_zip hea).1
   ·
    exact hn2 (List.of_mem_zip hea).1
  rcases hc with ⟨_, hk, hv⟩ | ⟨_, hk, hv, hg⟩
  ·
   refine ⟨?_, hed, ?_⟩
   ·
    rw [hk, hv, zip_mid hl]
    rcases hea with hea | hea
    ·
     exact List.mem_append_left _ hea
    ·
     exact List.mem_append_right _ (List.mem_cons_of_mem _ hea)
   ·
    have hp := h.sep
    rw [hv] at hp
    obtain ⟨_, hp2, hp3⟩ := List.pairwise_append.1 hp
    rcases hea with hea | hea
    ·
     exact (hp3 a (List.of_mem_zip hea).2 _ List.mem_cons_self).symm
    ·
     exact (List.pairwise_cons.1 hp2).1 a (List.of_mem_zip hea).2
  ·
   refine ⟨?_, hed, ?_⟩
   ·
    rw [hk, hv, List.zip_append hl.symm]
    rcases hea with hea | hea
    ·
     exact List.mem_append_left _ hea
    ·
     exact List.mem_append_right _ hea
   ·
    intro g hgg; rw [hg] at hgg; cases hgg
 have hkeep : ∀ e a, ((e, a) ∈ K1.zip V1 ∨ (e, a) ∈ K2.zip V2) → RN V base a (fam e) ∧ Sep u a := by
  intro e a hea
  obtain ⟨h1, _, h3⟩ := hrest e a hea
  have hr := h.rows e a h1
  refine ⟨hr.keep fun g hg => ht g (hr.lt hg) (fun e => h3 g e hg) (hr.block hg).2, fun g hg ha => ?_⟩
  rcases hub with e' | ⟨b, hb, hbb⟩
  ·
   exact h3 g (e' ▸ hg) ha
  ·
   rw [hb] at hg
   have := hr.lt ha
   have := Option.some.inj hg
   omega
 have hzip : ∀ (x : Value) (K : List Dot) (X : List Value), X.length = K.length → x ∈ X → ∃ e, (e, x) ∈ K.zip X := by
  intro x K X hl hx
  obtain ⟨i, hi⟩ := List.getElem?_of_mem hx
  have hil := (List.getElem?_eq_some_iff.1 hi).1
  exact ⟨K[i]'(by omega), List.mem_of_getElem? (i := i) (by rw [List.getElem?_zip_eq_some]; exact ⟨List.getElem?_eq_getElem _, hi⟩)⟩
 have hl2 : V2.length = K2.length := by
  have := hm.len
  rw [e1, e2] at this
  simp only [List.length_append, List.length_cons] at this
  omega
 have hsepV : V1.Pairwise Sep ∧ V2.Pairwise Sep ∧ ∀ a ∈ V1, ∀ b ∈ V2, Sep a b := by
  have hp := h.sep
  rcases hc with ⟨_, _, hv⟩ | ⟨_, _, hv, _⟩
  ·
   rw [hv] at hp
   obtain ⟨p1, p2, p3⟩ := List.pairwise_append.1 hp
   exact ⟨p1, (List.pairwise_cons.1 p2).2, fun a ha b hb => p3 a ha b (List.mem_cons_of_mem _ hb)⟩
  ·
   rw [hv] at hp
   obtain ⟨p1, p2, p3⟩ := List.pairwise_append.1 hp
   exact ⟨p1, p2, p3⟩
 refine ⟨hm, ?_, ?_, ?_⟩
 ·
  intro e a hea
  rw [e1, e2, zip_mid hl] at hea
  rcases List.mem_append.1 hea with hea | hea
  ·
   have := hkeep e a (.inl hea)
   rw [if_neg (hrest e a (.inl hea)).2.1]; exact this.1
  ·
   rcases List.mem_cons.1 hea with he | hea
   ·
    cases he; rw [if_pos rfl]; exact hu
   ·
    rw [if_neg (hrest e a (.inr hea)).2.1]; exact (hkeep e a (.inr hea)).1
 ·
  rw [e2]
  refine List.pairwise_append.2 ⟨hsepV.1, List.pairwise_cons.2 ⟨fun b hb => ?_, hsepV.2.1⟩, fun a ha b hb => ?_⟩
  ·
   obtain ⟨e, he⟩ := hzip b K2 V2 hl2 hb
   exact (hkeep e b (.inr he)).2
  ·
   rcases List.mem_cons.1 hb with rfl | hb
   ·
    obtain ⟨e, he⟩ := hzip a K1 V1 hl ha
    exact (hkeep e a (.inl he)).2.symm
   ·
    exact hsepV.2.2 a ha b hb
 ·
  intro e he
  rw [e1] at he
  have hed : e ≠ d := fun h => he (by rw [h]; simp)
  rw [if_neg hed]
  refine h.none e fun hek => he ?_
  rcases hc with ⟨_, hk, _⟩ | ⟨_, hk, _⟩
  ·
   rwa [hk] at hek
  ·
   rw [hk] at hek
   rcases List.mem_append.1 hek with hek | hek
   ·
    exact List.mem_append_left _ hek
   ·
    exact List.mem_append_right _ (List.mem_cons_of_mem _ hek)
end Go.Proofs.YtdheokololpnbaaGreatDoor.PWalk
end
