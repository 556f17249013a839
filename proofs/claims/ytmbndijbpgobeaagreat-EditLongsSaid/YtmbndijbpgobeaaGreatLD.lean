/-
  The law EditLongs returns true for every number and every rune, and leaves its input as it was: as many runes as may be inserted and deleted at once, and one more. Part 4 of 12.
-/
import Derived.Test.YtmbndijbpgobeaaGreatLC
import Derived.Lib.Overlaps
import Derived.Lib.AppendZerosOnto
import Derived.Laws.Externs
section
namespace Go.Proofs.YtmbndijbpgobeaaGreat.PWalk
open Go.RowKit Go.Proofs.YtmbndijbpgobeaaGreatW.PrintWords Go.Proofs.YtmbndijbpgobeaaGreatW.PrintLast Go.Proofs.YtmbndijbpgobeaaGreatW.PrintMore
set_option linter.unusedVariables false
set_option linter.unusedSimpArgs false
open Go.Shelf
attribute [local go_sem] Oper.semAt_some
def firstI (a b : Node) : Int := if nodeLt a b = true then -1 else if nodeLt b a = true then 1 else 0
set_option maxHeartbeats 1000000 in
set_option maxRecDepth 100000 in
theorem first_call (a b : Node) (w : World) : Calls Tryz.prog 131 #[vNode a, vNode b] w fun e w' => e = .returned (.int .i64 (firstI a b)) ∧ Gr w w' := by
 have hA : ((w.alloc (.cells #[.int .i64 a.f0.f0, .int .i64 a.f0.f1, .int .i64 a.f1.f0, .int .i64 a.f1.f1, .int .i64 a.f2, .int .i32 a.f3] 53 (0, 0))).alloc (.cells #[.int .i64 b.f0.f0, .int .i64 b.f0.f1, .int .i64 b.f1.f0, .int .i64 b.f1.f1, .int .i64 b.f2, .int .i32 b.f3] 53 (0, 0))).heap[w.heap.size]? = some (.cells #[.int .i64 a.f0.f0, .int .i64 a.f0.f1, .int .i64 a.f1.f0, .int .i64 a.f1.f1, .int .i64 a.f2, .int .i32 a.f3] 53 (0, 0)) := blk_alloc (blk_new _ _) _
 have hB : ((w.alloc (.cells #[.int .i64 a.f0.f0, .int .i64 a.f0.f1, .int .i64 a.f1.f0, .int .i64 a.f1.f1, .int .i64 a.f2, .int .i32 a.f3] 53 (0, 0))).alloc (.cells #[.int .i64 b.f0.f0, .int .i64 b.f0.f1, .int .i64 b.f1.f0, .int .i64 b.f1.f1, .int .i64 b.f2, .int .i32 b.f3] 53 (0, 0))).heap[w.heap.size + 1]? = some (.cells #[.int .i64 b.f0.f0, .int .i64 b.f0.f1, .int .i64 b.f1.f0, .int .i64 b.f1.f1, .int .i64 b.f2, .int .i32 b.f3] 53 (0, 0)) := by have := blk_new (w.alloc (.cells #[.int .i64 a.f0.f0, .int .i64 a.f0.f1, .int .i64 a.f1.f0, .int .i64 a.f1.f1, .int .i64 a.f2, .int .i32 a.f3] 53 (0, 0))) (.cells #[.int .i64 b.f0.f0, .int .i64 b.f0.f1, .int .i64 b.f1.f0, .int .i64 b.f1.f1, .int .i64 b.f2, .int .i32 b.f3] 53 (0, 0)); rwa [World.size_alloc] at this
 have HA := Aside0.mk hA
 have HB := Aside0.mk hB
 have HG := Aside0.mk ((Gr.alloc w (.cells #[.int .i64 a.f0.f0, .int .i64 a.f0.f1, .int .i64 a.f1.f0, .int .i64 a.f1.f1, .int .i64 a.f2, .int .i32 a.f3] 53 (0, 0))).trans (Gr.alloc _ (.cells #[.int .i64 b.f0.f0, .int .i64 b.f0.f1, .int .i64 b.f1.f0, .int .i64 b.f1.f1, .int .i64 b.f2, .int .i32 b.f3] 53 (0, 0))))
 clear hA hB
 obtain ⟨r, HR⟩ : ∃ r, Aside0 (firstI a b = r) := ⟨_, ⟨rfl⟩⟩
 rw [HR.out]
 go_enter Tryz.func131, Tryz.ntmps131
 go_wp2_with fail
 generalize (w.alloc (.cells #[.int .i64 a.f0.f0, .int .i64 a.f0.f1, .int .i64 a.f1.f0, .int .i64 a.f1.f1, .int .i64 a.f2, .int .i32 a.f3] 53 (0, 0))).alloc (.cells #[.int .i64 b.f0.f0, .int .i64 b.f0.f1, .int .i64 b.f1.f0, .int .i64 b.f1.f1, .int .i64 b.f2, .int .i32 b.f3] 53 (0, 0)) = W0 at HA HB HG ⊢
 refine (nodeLt_call a b W0).mono ?_
 rintro e W1 ⟨rfl, hb⟩
 have HA := Aside0.mk (hb.blk HA.out)
 have HB := Aside0.mk (hb.blk HB.out)
 have HG := Aside0.mk (HG.out.trans hb)
 clear hb
 cases h1 : nodeLt a b with
 | true =>
  have H1 := Aside0.mk h1
  clear h1
  go_wp2_with fail
  go_ret
  exact ⟨by rw [← HR.out, firstI, if_pos H1.out]; rfl, HG.out⟩
 | false =>
  have H1 := Aside0.mk h1
  clear h1
  have cA0 : W1.cell? ⟨w.heap.size, 0, none⟩ = _ := (blk_cell HA.out 0).trans rfl
  have cA1 : W1.cell? ⟨w.heap.size, 1, none⟩ = _ := (blk_cell HA.out 1).trans rfl
  have cA2 : W1.cell? ⟨w.heap.size, 2, none⟩ = _ := (blk_cell HA.out 2).trans rfl
  have cA3 : W1.cell? ⟨w.heap.size, 3, none⟩ = _ := (blk_cell HA.out 3).trans rfl
  have cA4 : W1.cell? ⟨w.heap.size, 4, none⟩ = _ := (blk_cell HA.out 4).trans rfl
  have cA5 : W1.cell? ⟨w.heap.size, 5, none⟩ = _ := (blk_cell HA.out 5).trans rfl
  have cB0 : W1.cell? ⟨w.heap.size + 1, 0, none⟩ = _ := (blk_cell HB.out 0).trans rfl
  have cB1 : W1.cell? ⟨w.heap.size + 1, 1, none⟩ = _ := (blk_cell HB.out 1).trans rfl
  have cB2 : W1.cell? ⟨w.heap.size + 1, 2, none⟩ = _ := (blk_cell HB.out 2).trans rfl
  have cB3 : W1.cell? ⟨w.heap.size + 1, 3, none⟩ = _ := (blk_cell HB.out 3).trans rfl
  have cB4 : W1.cell? ⟨w.heap.size + 1, 4, none⟩ = _ := (blk_cell HB.out 4).trans rfl
  have cB5 : W1.cell? ⟨w.heap.size + 1, 5, none⟩ = _ := (blk_cell HB.out 5).trans rfl
  go_wp2_with fail
  refine (nodeLt_call b a W1).mono ?_
  rintro e W2 ⟨rfl, hb⟩
  have HG := Aside0.mk (HG.out.trans hb)
  clear hb
  cases h2 : nodeLt b a with
  | true =>
   have H2 := Aside0.mk h2
   clear h2
   go_wp2_with fail
   go_ret
   exact ⟨by rw [← HR.out, firstI, if_neg (by rw [H1.out]; decide), if_pos H2.out]; rfl, HG.out⟩
  | false =>
   have H2 := Aside0.mk h2
   clear h2
   go_wp2_with fail
   go_ret
   exact ⟨by rw [← HR.out, firstI, if_neg (by rw [H1.out]; decide), if_neg (by rw [H2.out]; decide)]; rfl, HG.out⟩
abbrev cmpV : Value := .func (.func 47) #[] #[]
abbrev vEnt (k : Dot) (v : Value) : Value := .agg #[.int .i64 k.f0, .int .i64 k.f1, v]
structure Find1 (W0 : World) (bm mp A B : Nat) (k : Dot) (v : Value) (d : Dot) (sl : Value) (V : World) : Prop where
 gr : Gr W0 V
 box : W0.heap[bm]? = some (.cells #[.pointer (some ⟨mp, 0, none⟩)] 143 (0, 0))
 map : W0.heap[mp]? = some (.cells #[cmpV, sl] 173 (0, 0))
 ent : W0.heap[A]? = some (.cells #[.int .i64 k.f0, .int .i64 k.f1, v] 176 (0, 0))
 key : W0.heap[B]? = some (.cells #[.int .i64 d.f0, .int .i64 d.f1] 25 (0, 0))
def find1Inv (W0 : World) (bm mp A B : Nat) (k : Dot) (v : Value) (d : Dot) (sl : Value) (L : Array Bool) (ac : Act) (V : World) : Prop := ∃ (l0 l1 l2 l3 l4 l5 l6 l7 l8 : Bool), L = #[l0, l1, l2, l3, l4, l5, l6, l7, l8] ∧ ac = { tmps := #[vEnt k v, vDot d, .pointer (some ⟨bm, 0, none⟩), .pointer (some ⟨A, 0, none⟩), .pointer (some ⟨B, 0, none⟩), selv l8 (.int .i64 (dotCmp k d)) (.int .i64 0), sel l0 (.pointer (some ⟨mp, 0, none⟩)), sel l1 (.pointer (some ⟨mp, 0, none⟩)), sel l2 (.pointer (some ⟨mp, 0, none⟩)), sel l3 (cmpV), sel l4 (.pointer (some ⟨A, 0, none⟩)), sel l5 (vDot k), sel l6 (vDot d), sel l7 (.int .i64 (dotCmp k d))], defers := [] } ∧ Aside0 (Find1 W0 bm mp A B k v d sl V)
set_option maxHeartbeats 1000000 in
set_option maxRecDepth 100000 in
theorem find1_call (k : Dot) (v : Value) (hv : v.oneCell' = true) (d : Dot) (bm mp : Nat) (sl : Value) (w : World) (hbm : w.heap[bm]? = some (.cells #[.pointer (some ⟨mp, 0, none⟩)] 143 (0, 0))) (hmp : w.heap[mp]? = some (.cells #[cmpV, sl] 173 (0, 0))) :
  Calls Tryz.prog 142 #[vEnt k v, vDot d, .pointer (some ⟨bm, 0, none⟩)] w fun e w' => e = .returned (.int .i64 (dotCmp k d)) ∧ Gr w w' := by
 replace hbm := blk_alloc (blk_alloc hbm (.cells #[.int .i64 k.f0, .int .i64 k.f1, v] 176 (0, 0))) (.cells #[.int .i64 d.f0, .int .i64 d.f1] 25 (0, 0))
 replace hmp := blk_alloc (blk_alloc hmp (.cells #[.int .i64 k.f0, .int .i64 k.f1, v] 176 (0, 0))) (.cells #[.int .i64 d.f0, .int .i64 d.f1] 25 (0, 0))
 have hA : ((w.alloc (.cells #[.int .i64 k.f0, .int .i64 k.f1, v] 176 (0, 0))).alloc (.cells #[.int .i64 d.f0, .int .i64 d.f1] 25 (0, 0))).heap[w.heap.size]? = some (.cells #[.int .i64 k.f0, .int .i64 k.f1, v] 176 (0, 0)) := blk_alloc (blk_new _ _) _
 have hB : ((w.alloc (.cells #[.int .i64 k.f0, .int .i64 k.f1, v] 176 (0, 0))).alloc (.cells #[.int .i64 d.f0, .int .i64 d.f1] 25 (0, 0))).heap[w.heap.size + 1]? = some (.cells #[.int .i64 d.f0, .int .i64 d.f1] 25 (0, 0)) := by have := blk_new (w.alloc (.cells #[.int .i64 k.f0, .int .i64 k.f1, v] 176 (0, 0))) (.cells #[.int .i64 d.f0, .int .i64 d.f1] 25 (0, 0)); rwa [World.size_alloc] at this
 have H1 := Aside0.mk hbm
 have H2 := Aside0.mk hmp
 have H3 := Aside0.mk hA
 have H4 := Aside0.mk hB
 clear hbm hmp hA hB
 go_enter Tryz.func142, Tryz.ntmps142
 go_wp2_with fail
 have hbm := H1.out
 have hmp := H2.out
 have hA := H3.out
 have hB := H4.out
 refine AnyOrder.wp_region (by kernel_rfl) (find1Inv ((w.alloc (.cells #[.int .i64 k.f0, .int .i64 k.f1, v] 176 (0, 0))).alloc (.cells #[.int .i64 d.f0, .int .i64 d.f1] 25 (0, 0))) bm mp w.heap.size (w.heap.size + 1) k v d sl) ?start ?step ?last
 case start => exact ⟨false, false, false, false, false, false, false, false, false, rfl, rfl, ⟨⟨Gr.drew _, hbm, hmp, hA, hB⟩⟩⟩
 case step =>
  rintro L ac V i ⟨l0, l1, l2, l3, l4, l5, l6, l7, l8, rfl, rfl, HF⟩ hi K hK
  have h1 : i = 0 ∨ i = 1 ∨ i = 2 ∨ i = 3 ∨ i = 4 ∨ i = 5 ∨ i = 6 ∨ i = 7 ∨ i = 8 := by
   have h1 := (AnyOrder.mem_ready hi).1
   clear hi hK
   change i < 9 at h1
   omega
  rcases h1 with rfl | rfl | rfl | rfl | rfl | rfl | rfl | rfl | rfl
  ·
   obtain rfl : l0 = false := (AnyOrder.mem_ready hi).2.1
   clear hi
   have cb0 : V.cell? ⟨bm, 0, none⟩ = _ := (blk_cell (HF.out.gr.blk HF.out.box) 0).trans rfl
   refine AnyOrder.wpOp_go rfl (by rfl) ?_
   go_wp2_with fail
   exact ⟨true, l1, l2, l3, l4, l5, l6, l7, l8, rfl, rfl, HF⟩
  ·
   obtain rfl : l1 = false := (AnyOrder.mem_ready hi).2.1
   obtain rfl : l0 = true := AnyOrder.dep (q := 0) hi rfl rfl rfl
   clear hi
   simp only [sel_true, selv_true] at hK ⊢
   refine AnyOrder.wpOp_go rfl (by rfl) ?_
   go_wp2_with fail
   exact ⟨true, true, l2, l3, l4, l5, l6, l7, l8, rfl, rfl, HF⟩
  ·
   obtain rfl : l2 = false := (AnyOrder.mem_ready hi).2.1
   obtain rfl : l1 = true := AnyOrder.dep (q := 0) hi rfl rfl rfl
   clear hi
   simp only [sel_true, selv_true] at hK ⊢
   refine AnyOrder.wpOp_go rfl (by rfl) ?_
   go_wp2_with fail
   exact ⟨l0, true, true, l3, l4, l5, l6, l7, l8, rfl, rfl, HF⟩
  ·
   obtain rfl : l3 = false := (AnyOrder.mem_ready hi).2.1
   obtain rfl : l2 = true := AnyOrder.dep (q := 0) hi rfl rfl rfl
   clear hi
   simp only [sel_true, selv_true] at hK ⊢
   have cm0 : V.cell? ⟨mp, 0, none⟩ = _ := (blk_cell (HF.out.gr.blk HF.out.map) 0).trans rfl
   refine AnyOrder.wpOp_go rfl (by rfl) ?_
   go_wp2_with fail
   exact ⟨l0, l1, true, true, l4, l5, l6, l7, l8, rfl, rfl, HF⟩
  ·
   obtain rfl : l4 = false := (AnyOrder.mem_ready hi).2.1
   clear hi
   refine AnyOrder.wpOp_go rfl (by rfl) ?_
   go_wp2_with fail
   exact ⟨l0, l1, l2, l3, true, l5, l6, l7, l8, rfl, rfl, HF⟩
  ·
   obtain rfl : l5 = false := (AnyOrder.mem_ready hi).2.1
   obtain rfl : l4 = true := AnyOrder.dep (q := 0) hi rfl rfl rfl
   clear hi
   simp only [sel_true, selv_true] at hK ⊢
   have ce0 : V.cell? ⟨w.heap.size, 0, none⟩ = _ := (blk_cell (HF.out.gr.blk HF.out.ent) 0).trans rfl
   have ce1 : V.cell? ⟨w.heap.size, 1, none⟩ = _ := (blk_cell (HF.out.gr.blk HF.out.ent) 1).trans rfl
   refine AnyOrder.wpOp_go rfl (by rfl) ?_
   go_wp2_with fail
   exact ⟨l0, l1, l2, l3, true, true, l6, l7, l8, rfl, rfl, HF⟩
  ·
   obtain rfl : l6 = false := (AnyOrder.mem_ready hi).2.1
   clear hi
   have ck0 : V.cell? ⟨w.heap.size + 1, 0, none⟩ = _ := (blk_cell (HF.out.gr.blk HF.out.key) 0).trans rfl
   have ck1 : V.cell? ⟨w.heap.size + 1, 1, none⟩ = _ := (blk_cell (HF.out.gr.blk HF.out.key) 1).trans rfl
   refine AnyOrder.wpOp_go rfl (by rfl) ?_
   go_wp2_with fail
   exact ⟨l0, l1, l2, l3, l4, l5, true, l7, l8, rfl, rfl, HF⟩
  ·
   obtain rfl : l7 = false := (AnyOrder.mem_ready hi).2.1
   obtain rfl : l3 = true := AnyOrder.dep (q := 0) hi rfl rfl rfl
   obtain rfl : l5 = true := AnyOrder.dep (q := 1) hi rfl rfl rfl
   obtain rfl : l6 = true := AnyOrder.dep (q := 2) hi rfl rfl rfl
   clear hi
   simp only [sel_true, selv_true] at hK ⊢
   refine AnyOrder.wpOp_go rfl (by rfl) ?_
   go_wp2_with fail
   refine (dotCmp_call k d V).mono ?_
   rintro e V' ⟨rfl, hb⟩
   exact hK _ _ ⟨l0, l1, l2, true, l4, true, true, true, l8, rfl, rfl, ⟨⟨HF.out.gr.trans hb, HF.out.box, HF.out.map, HF.out.ent, HF.out.key⟩⟩⟩
  ·
   obtain rfl : l8 = false := (AnyOrder.mem_ready hi).2.1
   obtain rfl : l7 = true := AnyOrder.dep (q := 0) hi rfl rfl rfl
   obtain rfl : l0 = true := AnyOrder.dep (q := 2) hi rfl rfl rfl
   obtain rfl : l1 = true := AnyOrder.dep (q := 3) hi rfl rfl rfl
   obtain rfl : l2 = true := AnyOrder.dep (q := 4) hi rfl rfl rfl
   obtain rfl : l3 = true := AnyOrder.dep (q := 5) hi rfl rfl rfl
   obtain rfl : l4 = true := AnyOrder.dep (q := 6) hi rfl rfl rfl
   obtain rfl : l5 = true := AnyOrder.dep (q := 7) hi rfl rfl rfl
   obtain rfl : l6 = true := AnyOrder.dep (q := 8) hi rfl rfl rfl
   clear hi
   simp only [sel_true, selv_true] at hK ⊢
   refine AnyOrder.wpOp_go rfl (by rfl) ?_
   go_wp2_with fail
   exact ⟨true, true, true, true, true, true, true, true, true, rfl, rfl, HF⟩
 case last =>
  rintro L ac V ⟨l0, l1, l2, l3, l4, l5, l6, l7, l8, rfl, rfl, HF⟩ hr
  have hall := AnyOrder.all_listed rfl (by kernel_rfl) hr
  clear hr
  obtain rfl : l0 = true := hall 0 (by decide)
  obtain rfl : l1 = true := hall 1 (by decide)
  obtain rfl : l2 = true := hall 2 (by decide)
  obtain rfl : l3 = true := hall 3 (by decide)
  obtain rfl : l4 = true := hall 4 (by decide)
  obtain rfl : l5 = true := hall 5 (by decide)
  obtain rfl : l6 = true := hall 6 (by decide)
  obtain rfl : l7 = true := hall 7 (by decide)
  obtain rfl : l8 = true := hall 8 (by decide)
  clear hall
  simp only [sel_true, selv_true]
  go_wp2
  go_ret
  exact ⟨rfl, ((Gr.alloc w _).trans (Gr.alloc _ _)).trans HF.out.gr⟩
structure Ents (W : World) (A : Option Addr) (n : Nat) (ks : List Dot) (vs : List Value) : Prop where
 kl : ks.length = n
 vl : vs.length = n
 small : n ≤ 1000000
 one : ∀ v ∈ vs, v.oneCell' = true
 row : ∀ i k v, ks[i]? = some k → vs[i]? = some v → ∃ eb, A = some ⟨eb, 0, none⟩ ∧ W.cell? ⟨eb, i * 3, none⟩ = some (.int .i64 k.f0) ∧ W.cell? ⟨eb, i * 3 + 1, none⟩ = some (.int .i64 k.f1) ∧ W.cell? ⟨eb, i * 3 + 2, none⟩ = some v
theorem Ents.below {W V : World} {A : Option Addr} {n : Nat} {ks : List Dot} {vs : List Value} (h : Ents W A n ks vs) (hb : Below W.heap.size W V) : Ents V A n ks vs :=
 ⟨h.kl, h.vl, h.small, h.one, fun i k v hk hv => by
  obtain ⟨eb, e, h0, h1, h2⟩ := h.row i k v hk hv
  exact ⟨eb, e, pw_cell_below hb h0, pw_cell_below hb h1, pw_cell_below hb h2⟩⟩
theorem Ents.get {W : World} {A : Option Addr} {n : Nat} {ks : List Dot} {vs : List Value} (h : Ents W A n ks vs) {i : Nat} (hi : i < n) : ∃ k v eb, ks[i]? = some k ∧ vs[i]? = some v ∧ v.oneCell' = true ∧ A = some ⟨eb, 0, none⟩ ∧ W.cell? ⟨eb, i * 3, none⟩ = some (.int .i64 k.f0) ∧ W.cell? ⟨eb, i * 3 + 1, none⟩ = some (.int .i64 k.f1) ∧ W.cell? ⟨eb, i * 3 + 2, none⟩ = some v := by
 have h1 : i < ks.length := by rw [h.kl]; exact hi
 have h2 : i < vs.length := by rw [h.vl]; exact hi
 obtain ⟨eb, e, c0, c1, c2⟩ := h.row i _ _ (List.getElem?_eq_getElem h1) (List.getElem?_eq_getElem h2)
 exact ⟨_, _, eb, List.getElem?_eq_getElem h1, List.getElem?_eq_getElem h2, h.one _ (List.getElem_mem h2), e, c0, c1, c2⟩
/-- How many keys come before a dot, and whether it is there. -/
def posK (ks : List Dot) (d : Dot) : Nat := (ks.takeWhile fun k => dotLt k d).length
def hasK (ks : List Dot) (d : Dot) : Bool := decide (ks[posK ks d]? = some d)
theorem posK_le (ks : List Dot) (d : Dot) : posK ks d ≤ ks.length := (List.takeWhile_sublist _).length_le
theorem incB_tail {k : Dot} {ks : List Dot} (h : incB (k :: ks) = true) : incB ks = true ∧ ∀ x ∈ ks, dotLt k x = true := by
 induction ks generalizing k with
 | nil => exact ⟨rfl, fun x hx => by cases hx⟩
 | cons y ks ih =>
  simp only [incB, Bool.and_eq_true] at h
  refine ⟨h.2, fun x hx => ?_⟩
  rcases List.mem_cons.1 hx with rfl | hx
  ·
   exact h.1
  ·
   exact dotLt_trans h.1 ((ih h.2).2 x hx)
theorem posK_iff {ks : List Dot} (h : incB ks = true) (d : Dot) : ∀ {i : Nat} {k : Dot}, ks[i]? = some k → (dotLt k d = true ↔ i < posK ks d) := by
 induction ks with
 | nil => intro i k hk; simp at hk
 | cons y ks ih =>
  intro i k hk
  obtain ⟨h1, h2⟩ := incB_tail h
  unfold posK
  rw [List.takeWhile_cons]
  by_cases hy : dotLt y d = true
  ·
   rw [if_pos hy]
   cases i with
   | zero => simp at hk; subst hk; simp [hy]
   | succ i =>
    have := ih h1 (i := i) (k := k) (by simpa using hk)
    rw [this]; simp [posK]
  ·
   rw [if_neg hy]
   cases i with
   | zero => simp at hk; subst hk; simp [hy]
   | succ i =>
    have hm : k ∈ ks := List.mem_of_getElem? (by simpa using hk)
    have : ¬ dotLt k d = true := fun e => hy (dotLt_trans (h2 k hm) e)
    simp [this]
theorem dotCmp_lt (a b : Dot) : decide (dotCmp a b < 0) = dotLt a b := by
 unfold dotCmp
 cases dotLt a b <;> simp
 cases dotLt b a <;> simp
theorem dotCmp_eq (a b : Dot) : (dotCmp a b == 0) = decide (a = b) := by
 unfold dotCmp
 cases h : dotLt a b with
 | true =>
  have : a ≠ b := fun e => by subst e; rw [dotLt_irrefl] at h; cases h
  simp [this]
 | false =>
  cases k : dotLt b a with
  | true =>
   have : a ≠ b := fun e => by subst e; rw [dotLt_irrefl] at k; cases k
   simp [this]
  | false => simp [dotLt_total h k]
structure Bs (w : World) (d : Dot) (V : World) : Prop where
 below : Below w.heap.size w V
 box : V.heap[w.heap.size]? = some (.cells #[.int .i64 d.f0, .int .i64 d.f1] 25 (0, 0))
theorem Bs.more {w V V' : World} {d : Dot} (h : Bs w d V) (hb : Below V.heap.size V V') : Bs w d V' := ⟨below_more h.below hb, blk_keep h.box hb⟩
theorem Bs.drew {w V : World} {d : Dot} (h : Bs w d V) : Bs w d V.drew := h.more (Gr.drew V).below
def bsrInv (w : World) (B bm eb n c : Nat) (d : Dot) (i j h : Nat) (k : Dot) (v : Value) (z12 z13 z14 z15 z16 z17 z18 z19 z20 z21 z22 z23 u24 u25 u26 u27 u28 u29 u30 u31 u32 u33 u34 : Value) (L : Array Bool) (ac : Act) (V : World) : Prop := ∃ (l0 l1 l2 l3 l4 l5 l6 l7 : Bool), L = #[l0, l1, l2, l3, l4, l5, l6, l7] ∧ ac = { tmps := #[.slice (some ⟨eb, 0, none⟩) n c, vDot d, .func (.func 142) #[] #[.pointer (some ⟨bm, 0, none⟩)], undef, .pointer (some ⟨B, 0, none⟩), undef, .int .i64 0, .bool false, .int .i64 n, .int .i64 i, .int .i64 j, .int .i64 h, z12, z13, z14, z15, z16, z17, z18, z19, z20, z21, z22, z23, selv l0 (.func (.func 142) #[] #[.pointer (some ⟨bm, 0, none⟩)]) (u24), selv l1 (.slice (some ⟨eb, 0, none⟩) n c) (u25), selv l2 (.int .i64 h) (u26), selv l3 (.pointer (some ⟨eb, h * 3, none⟩)) (u27), selv l4 (vEnt k v) (u28), selv l5 (vDot d) (u29), selv l6 (.int .i64 (dotCmp k d)) (u30), selv l7 (.bool (decide (dotCmp k d < 0))) (u31), u32, u33, u34, undef, undef, undef, undef, undef, undef, undef, undef, undef, undef, undef, undef, undef, undef], defers := [] } ∧ Aside0 (Bs w d V)
def bstInv (w : World) (B bm eb n c : Nat) (d : Dot) (q : Nat) (k : Dot) (v : Value) (y11 y12 y13 y14 y15 y16 y17 y18 y19 y20 y21 y22 y23 y24 y25 y26 y27 y28 y29 y30 y31 y32 y33 y34 : Value) (L : Array Bool) (ac : Act) (V : World) : Prop := ∃ (l0 l1 l2 l3 l4 l5 l6 l7 l8 l9 l10 l11 l12 l13 l14 l15 : Bool), L = #[l0, l1, l2, l3, l4, l5, l6, l7, l8, l9, l10, l11, l12, l13, l14, l15] ∧ ac = { tmps := #[.slice (some ⟨eb, 0, none⟩) n c, vDot d, .func (.func 142) #[] #[.pointer (some ⟨bm, 0, none⟩)], undef, .pointer (some ⟨B, 0, none⟩), undef, selv l14 (.int .i64 q) (.int .i64 0), selv l15 (.bool (dotCmp k d == 0)) (.bool false), .int .i64 n, .int .i64 q, .int .i64 q, y11, y12, y13, y14, y15, y16, y17, y18, y19, y20, y21, y22, y23, y24, y25, y26, y27, y28, y29, y30, y31, y32, y33, y34, sel l0 (.int .i64 q), sel l1 (.int .i64 q), sel l2 (.int .i64 n), sel l3 (.bool true), sel l4 (.bool true), sel l5 (.func (.func 142) #[] #[.pointer (some ⟨bm, 0, none⟩)]), sel l6 (.slice (some ⟨eb, 0, none⟩) n c), sel l7 (.int .i64 q), sel l8 (.pointer (some ⟨eb, q * 3, none⟩)), sel l9 (vEnt k v), sel l10 (vDot d), sel l11 (.int .i64 (dotCmp k d)), sel l12 (.bool (dotCmp k d == 0)), sel l13 (.bool (dotCmp k d == 0))], defers := [] } ∧ Aside0 (Bs w d V)
def bsfInv (w : World) (A : Option Addr) (B bm n c : Nat) (d : Dot) (y11 y12 y13 y14 y15 y16 y17 y18 y19 y20 y21 y22 y23 y24 y25 y26 y27 y28 y29 y30 y31 y32 y33 y34 : Value) (L : Array Bool) (ac : Act) (V : World) : Prop := ∃ (l0 l1 l2 l3 l4 l5 l6 l7 l8 l9 l10 l11 l12 l13 l14 l15 : Bool), L = #[l0, l1, l2, l3, l4, l5, l6, l7, l8, l9, l10, l11, l12, l13, l14, l15] ∧ ac = { tmps := #[.slice A n c, vDot d, .func (.func 142) #[] #[.pointer (some ⟨bm, 0, none⟩)], undef, .pointer (some ⟨B, 0, none⟩), undef, selv l14 (.int .i64 n) (.int .i64 0), selv l15 (.bool false) (.bool false), .int .i64 n, .int .i64 n, .int .i64 n, y11, y12, y13, y14, y15, y16, y17, y18, y19, y20, y21, y22, y23, y24, y25, y26, y27, y28, y29, y30, y31, y32, y33, y34, sel l0 (.int .i64 n), sel l1 (.int .i64 n), sel l2 (.int .i64 n), sel l3 (.bool false), sel l4 (.bool false), sel l5 (undef), sel l6 (undef), sel l7 (undef), sel l8 (undef), sel l9 (undef), sel l10 (undef), sel l11 (undef), sel l12 (undef), sel l13 (.bool false)], defers := [] } ∧ Aside0 (Bs w d V)
set_option maxHeartbeats 2000000 in
set_option maxRecDepth 100000 in
theorem bsearch_call (ks : List Dot) (vs : List Value) (A : Option Addr) (n c : Nat) (d : Dot) (bm mp : Nat) (sl : Value) (w : World) (hs : incB ks = true) (he : Ents w A n ks vs) (hbm : w.heap[bm]? = some (.cells #[.pointer (some ⟨mp, 0, none⟩)] 143 (0, 0))) (hmp : w.heap[mp]? = some (.cells #[cmpV, sl] 173 (0, 0))) :
  Calls Tryz.prog 141 #[.slice A n c, vDot d, .func (.func 142) #[] #[.pointer (some ⟨bm, 0, none⟩)]] w fun e w' => e = .returned (.tuple #[.int .i64 (posK ks d), .bool (hasK ks d)]) ∧ Below w.heap.size w w' := by
 have HE := Aside0.mk he
 have HBM := Aside0.mk hbm
 have HMP := Aside0.mk hmp
 have HS := Aside0.mk hs
 have hn := he.small
 have HQN : Aside0 (posK ks d ≤ n) := ⟨by rw [← he.kl]; exact posK_le ks d⟩
 clear he hbm hmp hs
 obtain ⟨q, HQ⟩ : ∃ q, Aside0 (posK ks d = q) := ⟨_, ⟨rfl⟩⟩
 obtain ⟨hf, HHF⟩ : ∃ hf, Aside0 (hasK ks d = hf) := ⟨_, ⟨rfl⟩⟩
 rw [HQ.out, HHF.out]
 rw [HQ.out] at HQN
 have HB0 : Aside0 (Bs w d (w.alloc (.cells #[.int .i64 d.f0, .int .i64 d.f1] 25 (0, 0)))) := ⟨(Gr.alloc w _).below, blk_new _ _⟩
 go_enter Tryz.func141, Tryz.ntmps141
 go_wp2
 go_loopw [9, 10] (fun i j wr => ∃ i' j' : Nat, i' ≤ q ∧ q ≤ j' ∧ j' ≤ n ∧ i = .int .i64 i' ∧ j = .int .i64 j' ∧ Aside0 (Bs w d wr)) (fun i j _ => (intOf j - intOf i).toNat)
 case atStart => exact ⟨0, n, Nat.zero_le _, HQN.out, Nat.le_refl _, rfl, rfl, HB0⟩
 case round =>
  obtain ⟨i, j, hi, hj, hjn, rfl, rfl, HB⟩ := hrel
  clear HB0
  by_cases hlt : i < j
  ·
   have hlb : decide ((i : Int) < (j : Int)) = true := decide_eq_true (by omega)
   obtain ⟨h, Hh⟩ : ∃ h : Nat, h = (i + j) / 2 := ⟨_, rfl⟩
   have hm : ((i : Int) + (j : Int)) / 2 = (h : Int) := by omega
   have HH : Aside0 (h < n) := ⟨by omega⟩
   have HIJ : Aside0 (i ≤ h ∧ h < j) := ⟨by omega⟩
   clear Hh
   obtain ⟨k, v, eb, hk, hvk, hv1, rfl, c0, c1, c2⟩ := HE.out.get HH.out
   have HC := Aside0.mk (And.intro c0 (And.intro c1 c2))
   have HV := Aside0.mk hv1
   have HL : Aside0 (dotLt k d = true ↔ h < q) := ⟨by rw [← HQ.out]; exact posK_iff HS.out d hk⟩
   clear c0 c1 c2 hk hvk hv1
   go_wp2_with fail
   refine AnyOrder.wp_region (by kernel_rfl) (bsrInv w w.heap.size bm eb n c d i j h k v (.slice (some ⟨eb, 0, none⟩) n c) (.int .i64 n) (.int .i64 n) (.int .i64 i) (.int .i64 j) (.bool true) (.int .i64 i) (.int .i64 j) (.int .i64 ((i : Int) + (j : Int))) (.int .u64 ((i : Int) + (j : Int))) (.int .u64 h) (.int .i64 h) u24 u25 u26 u27 u28 u29 u30 u31 u32 u33 u34) ?start ?step ?last
   case start => exact ⟨false, false, false, false, false, false, false, false, rfl, rfl, ⟨HB.out.drew⟩⟩
   case step =>
    rintro L ac V i ⟨l0, l1, l2, l3, l4, l5, l6, l7, rfl, rfl, HF⟩ hi K hK
    have h1 : i = 0 ∨ i = 1 ∨ i = 2 ∨ i = 3 ∨ i = 4 ∨ i = 5 ∨ i = 6 ∨ i = 7 := by
     have h1 := (AnyOrder.mem_ready hi).1
     clear hi hK
     change i < 8 at h1
     omega
    rcases h1 with rfl | rfl | rfl | rfl | rfl | rfl | rfl | rfl
    ·
     obtain rfl : l0 = false := (AnyOrder.mem_ready hi).2.1
     clear hi
     refine AnyOrder.wpOp_go rfl (by rfl) ?_
     go_wp2_with fail
     exact ⟨true, l1, l2, l3, l4, l5, l6, l7, rfl, rfl, HF⟩
    ·
     obtain rfl : l1 = false := (AnyOrder.mem_ready hi).2.1
     clear hi
     refine AnyOrder.wpOp_go rfl (by rfl) ?_
     go_wp2_with fail
     exact ⟨l0, true, l2, l3, l4, l5, l6, l7, rfl, rfl, HF⟩
    ·
     obtain rfl : l2 = false := (AnyOrder.mem_ready hi).2.1
     clear hi
     refine AnyOrder.wpOp_go rfl (by rfl) ?_
     go_wp2_with fail
     exact ⟨l0, l1, true, l3, l4, l5, l6, l7, rfl, rfl, HF⟩
    ·
     obtain rfl : l3 = false := (AnyOrder.mem_ready hi).2.1
     obtain rfl : l1 = true := AnyOrder.dep (q := 0) hi rfl rfl rfl
     obtain rfl : l2 = true := AnyOrder.dep (q := 1) hi rfl rfl rfl
     clear hi
     simp only [sel_true, selv_true] at hK ⊢
     have hh := HH.out
     refine AnyOrder.wpOp_go rfl (by rfl) ?_
     go_wp2_with fail
     exact ⟨l0, true, true, true, l4, l5, l6, l7, rfl, rfl, HF⟩
    ·
     obtain rfl : l4 = false := (AnyOrder.mem_ready hi).2.1
     obtain rfl : l3 = true := AnyOrder.dep (q := 0) hi rfl rfl rfl
     clear hi
     simp only [sel_true, selv_true] at hK ⊢
     obtain ⟨q0, q1, q2⟩ := HC.out
     have e0 : V.cell? ⟨eb, h * 3, none⟩ = _ := pw_cell_below HF.out.below q0
     have e1 : V.cell? ⟨eb, h * 3 + 1, none⟩ = _ := pw_cell_below HF.out.below q1
     have e2 : V.cell? ⟨eb, h * 3 + 2, none⟩ = _ := pw_cell_below HF.out.below q2
     have hv := HV.out
     clear q0 q1 q2
     refine AnyOrder.wpOp_go rfl (by rfl) ?_
     go_wp2_with fail
     exact ⟨l0, l1, l2, true, true, l5, l6, l7, rfl, rfl, HF⟩
    ·
     obtain rfl : l5 = false := (AnyOrder.mem_ready hi).2.1
     clear hi
     have d0 : V.cell? ⟨w.heap.size, 0, none⟩ = _ := (blk_cell HF.out.box 0).trans rfl
     have d1 : V.cell? ⟨w.heap.size, 1, none⟩ = _ := (blk_cell HF.out.box 1).trans rfl
     refine AnyOrder.wpOp_go rfl (by rfl) ?_
     go_wp2_with fail
     exact ⟨l0, l1, l2, l3, l4, true, l6, l7, rfl, rfl, HF⟩
    ·
     obtain rfl : l6 = false := (AnyOrder.mem_ready hi).2.1
     obtain rfl : l0 = true := AnyOrder.dep (q := 0) hi rfl rfl rfl
     obtain rfl : l4 = true := AnyOrder.dep (q := 1) hi rfl rfl rfl
     obtain rfl : l5 = true := AnyOrder.dep (q := 2) hi rfl rfl rfl
     clear hi
     simp only [sel_true, selv_true] at hK ⊢
     refine AnyOrder.wpOp_go rfl (by rfl) ?_
     go_wp2_with fail
     refine (find1_call k v HV.out d bm mp sl V (blk_keep HBM.out HF.out.below) (blk_keep HMP.out HF.out.below)).mono ?_
     rintro e V' ⟨rfl, hb⟩
     exact hK _ _ ⟨true, l1, l2, l3, true, true, true, l7, rfl, rfl, ⟨HF.out.more hb.below⟩⟩
    ·
     obtain rfl : l7 = false := (AnyOrder.mem_ready hi).2.1
     obtain rfl : l6 = true := AnyOrder.dep (q := 0) hi rfl rfl rfl
     clear hi
     simp only [sel_true, selv_true] at hK ⊢
     refine AnyOrder.wpOp_go rfl (by rfl) ?_
     go_wp2_with fail
     exact ⟨l0, l1, l2, l3, l4, l5, true, true, rfl, rfl, HF⟩
   case last =>
    rintro L ac V ⟨l0, l1, l2, l3, l4, l5, l6, l7, rfl, rfl, HF⟩ hr
    have hall := AnyOrder.all_listed rfl (by kernel_rfl) hr
    clear hr
    obtain rfl : l0 = true := hall 0 (by decide)
    obtain rfl : l1 = true := hall 1 (by decide)
    obtain rfl : l2 = true := hall 2 (by decide)
    obtain rfl : l3 = true := hall 3 (by decide)
    obtain rfl : l4 = true := hall 4 (by decide)
    obtain rfl : l5 = true := hall 5 (by decide)
    obtain rfl : l6 = true := hall 6 (by decide)
    obtain rfl : l7 = true := hall 7 (by decide)
    clear hall
    simp only [sel_true, selv_true]
    clear hm
    rw [dotCmp_lt]
    cases hd : dotLt k d with
    | true =>
     have hw1 : wrap64 ((h : Int) + 1) = ((h + 1 : Nat) : Int) := by unfold wrap64; have := HH.out; omega
     have h2 := HL.out.1 hd
     have HIJ2 := HIJ.out
     clear hd
     go_wp2_with fail
     refine ⟨⟨h + 1, j, by omega, hj, hjn, by (first | rfl | (rw [hw1])), rfl, HF⟩, ?_⟩
     simp [intOf]; omega
    | false =>
     have h2 : ¬ h < q := fun e => by have := HL.out.2 e; rw [hd] at this; cases this
     have HIJ2 := HIJ.out
     clear hd
     go_wp2_with fail
     refine ⟨⟨i, h, hi, by omega, by omega, rfl, rfl, HF⟩, ?_⟩
     simp [intOf]; omega
  ·
   obtain rfl : q = i := by omega
   obtain rfl : q = j := by omega
   have hlb : decide ((q : Int) < (q : Int)) = false := decide_eq_false (by omega)
   by_cases hq : q < n
   ·
    have HH := Aside0.mk hq
    obtain ⟨k, v, eb, hk, hvk, hv1, rfl, c0, c1, c2⟩ := HE.out.get HH.out
    have HC := Aside0.mk (And.intro c0 (And.intro c1 c2))
    have HV := Aside0.mk hv1
    have HR : Aside0 (hf = (dotCmp k d == 0)) := ⟨by rw [← HHF.out, hasK, HQ.out, hk, dotCmp_eq]; simp⟩
    clear c0 c1 c2 hk hvk hv1
    go_wp2_with fail
    refine AnyOrder.wp_region (by kernel_rfl) (bstInv w w.heap.size bm eb n c d q k v u11 (.slice (some ⟨eb, 0, none⟩) n c) (.int .i64 n) (.int .i64 n) (.int .i64 q) (.int .i64 q) (.bool false) u18 u19 u20 u21 u22 u23 u24 u25 u26 u27 u28 u29 u30 u31 u32 u33 u34) ?start ?step ?last
    case start => exact ⟨false, false, false, false, false, false, false, false, false, false, false, false, false, false, false, false, rfl, rfl, ⟨HB.out.drew⟩⟩
    case step =>
     rintro L ac V i ⟨l0, l1, l2, l3, l4, l5, l6, l7, l8, l9, l10, l11, l12, l13, l14, l15, rfl, rfl, HF⟩ hi K hK
     have h1 : i = 0 ∨ i = 1 ∨ i = 2 ∨ i = 3 ∨ i = 4 ∨ i = 5 ∨ i = 6 ∨ i = 7 ∨ i = 8 ∨ i = 9 ∨ i = 10 ∨ i = 11 ∨ i = 12 ∨ i = 13 ∨ i = 14 ∨ i = 15 := by
      have h1 := (AnyOrder.mem_ready hi).1
      clear hi hK
      change i < 16 at h1
      omega
     rcases h1 with rfl | rfl | rfl | rfl | rfl | rfl | rfl | rfl | rfl | rfl | rfl | rfl | rfl | rfl | rfl | rfl
     ·
      obtain rfl : l0 = false := (AnyOrder.mem_ready hi).2.1
      clear hi
      refine AnyOrder.wpOp_go rfl (by rfl) ?_
      go_wp2_with fail
      exact ⟨true, l1, l2, l3, l4, l5, l6, l7, l8, l9, l10, l11, l12, l13, l14, l15, rfl, rfl, HF⟩
     ·
      obtain rfl : l1 = false := (AnyOrder.mem_ready hi).2.1
      clear hi
      refine AnyOrder.wpOp_go rfl (by rfl) ?_
      go_wp2_with fail
      exact ⟨l0, true, l2, l3, l4, l5, l6, l7, l8, l9, l10, l11, l12, l13, l14, l15, rfl, rfl, HF⟩
     ·
      obtain rfl : l2 = false := (AnyOrder.mem_ready hi).2.1
      clear hi
      refine AnyOrder.wpOp_go rfl (by rfl) ?_
      go_wp2_with fail
      exact ⟨l0, l1, true, l3, l4, l5, l6, l7, l8, l9, l10, l11, l12, l13, l14, l15, rfl, rfl, HF⟩
     ·
      obtain rfl : l3 = false := (AnyOrder.mem_ready hi).2.1
      obtain rfl : l1 = true := AnyOrder.dep (q := 0) hi rfl rfl rfl
      obtain rfl : l2 = true := AnyOrder.dep (q := 1) hi rfl rfl rfl
      clear hi
      simp only [sel_true, selv_true] at hK ⊢
      have hh : decide ((q : Int) < (n : Int)) = true := decide_eq_true (by have := HH.out; omega)
      refine AnyOrder.wpOp_go rfl (by rfl) ?_
      go_wp2_with fail
      exact ⟨l0, true, true, true, l4, l5, l6, l7, l8, l9, l10, l11, l12, l13, l14, l15, rfl, rfl, HF⟩
     ·
      obtain rfl : l4 = false := (AnyOrder.mem_ready hi).2.1
      obtain rfl : l3 = true := AnyOrder.dep (q := 0) hi rfl rfl rfl
      clear hi
      simp only [sel_true, selv_true] at hK ⊢
      refine AnyOrder.wpOp_go rfl (by rfl) ?_
      go_wp2_with fail
      exact ⟨l0, l1, l2, true, true, l5, l6, l7, l8, l9, l10, l11, l12, l13, l14, l15, rfl, rfl, HF⟩
     ·
      obtain rfl : l5 = false := (AnyOrder.mem_ready hi).2.1
      obtain rfl : l4 = true := AnyOrder.dep (q := 0) hi rfl rfl rfl
      clear hi
      simp only [sel_true, selv_true] at hK ⊢
      refine AnyOrder.wpOp_go rfl (by rfl) ?_
      go_wp2_with fail
      exact ⟨l0, l1, l2, l3, true, true, l6, l7, l8, l9, l10, l11, l12, l13, l14, l15, rfl, rfl, HF⟩
     ·
      obtain rfl : l6 = false := (AnyOrder.mem_ready hi).2.1
      obtain rfl : l4 = true := AnyOrder.dep (q := 0) hi rfl rfl rfl
      clear hi
      simp only [sel_true, selv_true] at hK ⊢
      refine AnyOrder.wpOp_go rfl (by rfl) ?_
      go_wp2_with fail
      exact ⟨l0, l1, l2, l3, true, l5, true, l7, l8, l9, l10, l11, l12, l13, l14, l15, rfl, rfl, HF⟩
     ·
      obtain rfl : l7 = false := (AnyOrder.mem_ready hi).2.1
      obtain rfl : l4 = true := AnyOrder.dep (q := 0) hi rfl rfl rfl
      clear hi
      simp only [sel_true, selv_true] at hK ⊢
      refine AnyOrder.wpOp_go rfl (by rfl) ?_
      go_wp2_with fail
      exact ⟨l0, l1, l2, l3, true, l5, l6, true, l8, l9, l10, l11, l12, l13, l14, l15, rfl, rfl, HF⟩
     ·
      obtain rfl : l8 = false := (AnyOrder.mem_ready hi).2.1
      obtain rfl : l6 = true := AnyOrder.dep (q := 0) hi rfl rfl rfl
      obtain rfl : l7 = true := AnyOrder.dep (q := 1) hi rfl rfl rfl
      obtain rfl : l4 = true := AnyOrder.dep (q := 2) hi rfl rfl rfl
      clear hi
      simp only [sel_true, selv_true] at hK ⊢
      have hh := HH.out
      refine AnyOrder.wpOp_go rfl (by rfl) ?_
      go_wp2_with fail
      exact ⟨l0, l1, l2, l3, true, l5, true, true, true, l9, l10, l11, l12, l13, l14, l15, rfl, rfl, HF⟩
     ·
      obtain rfl : l9 = false := (AnyOrder.mem_ready hi).2.1
      obtain rfl : l8 = true := AnyOrder.dep (q := 0) hi rfl rfl rfl
      obtain rfl : l4 = true := AnyOrder.dep (q := 1) hi rfl rfl rfl
      clear hi
      simp only [sel_true, selv_true] at hK ⊢
      obtain ⟨q0, q1, q2⟩ := HC.out
      have e0 : V.cell? ⟨eb, q * 3, none⟩ = _ := pw_cell_below HF.out.below q0
      have e1 : V.cell? ⟨eb, q * 3 + 1, none⟩ = _ := pw_cell_below HF.out.below q1
      have e2 : V.cell? ⟨eb, q * 3 + 2, none⟩ = _ := pw_cell_below HF.out.below q2
      have hv := HV.out
      clear q0 q1 q2
      refine AnyOrder.wpOp_go rfl (by rfl) ?_
      go_wp2_with fail
      exact ⟨l0, l1, l2, l3, true, l5, l6, l7, true, true, l10, l11, l12, l13, l14, l15, rfl, rfl, HF⟩
     ·
      obtain rfl : l10 = false := (AnyOrder.mem_ready hi).2.1
      obtain rfl : l4 = true := AnyOrder.dep (q := 0) hi rfl rfl rfl
      clear hi
      simp only [sel_true, selv_true] at hK ⊢
      have d0 : V.cell? ⟨w.heap.size, 0, none⟩ = _ := (blk_cell HF.out.box 0).trans rfl
      have d1 : V.cell? ⟨w.heap.size, 1, none⟩ = _ := (blk_cell HF.out.box 1).trans rfl
      refine AnyOrder.wpOp_go rfl (by rfl) ?_
      go_wp2_with fail
      exact ⟨l0, l1, l2, l3, true, l5, l6, l7, l8, l9, true, l11, l12, l13, l14, l15, rfl, rfl, HF⟩
     ·
      obtain rfl : l11 = false := (AnyOrder.mem_ready hi).2.1
      obtain rfl : l5 = true := AnyOrder.dep (q := 0) hi rfl rfl rfl
      obtain rfl : l9 = true := AnyOrder.dep (q := 1) hi rfl rfl rfl
      obtain rfl : l10 = true := AnyOrder.dep (q := 2) hi rfl rfl rfl
      obtain rfl : l4 = true := AnyOrder.dep (q := 3) hi rfl rfl rfl
      clear hi
      simp only [sel_true, selv_true] at hK ⊢
      refine AnyOrder.wpOp_go rfl (by rfl) ?_
      go_wp2_with fail
      refine (find1_call k v HV.out d bm mp sl V (blk_keep HBM.out HF.out.below) (blk_keep HMP.out HF.out.below)).mono ?_
      rintro e V' ⟨rfl, hb⟩
      exact hK _ _ ⟨l0, l1, l2, l3, true, true, l6, l7, l8, true, true, true, l12, l13, l14, l15, rfl, rfl, ⟨HF.out.more hb.below⟩⟩
     ·
      obtain rfl : l12 = false := (AnyOrder.mem_ready hi).2.1
      obtain rfl : l11 = true := AnyOrder.dep (q := 0) hi rfl rfl rfl
      obtain rfl : l4 = true := AnyOrder.dep (q := 1) hi rfl rfl rfl
      clear hi
      simp only [sel_true, selv_true] at hK ⊢
      refine AnyOrder.wpOp_go rfl (by rfl) ?_
      go_wp2_with fail
      exact ⟨l0, l1, l2, l3, true, l5, l6, l7, l8, l9, l10, true, true, l13, l14, l15, rfl, rfl, HF⟩
     ·
      obtain rfl : l13 = false := (AnyOrder.mem_ready hi).2.1
      obtain rfl : l4 = true := AnyOrder.dep (q := 0) hi rfl rfl rfl
      obtain rfl : l12 = true := AnyOrder.dep (q := 1) hi rfl rfl rfl
      clear hi
      simp only [sel_true, selv_true] at hK ⊢
      refine AnyOrder.wpOp_go rfl (by rfl) ?_
      go_wp2_with fail
      exact ⟨l0, l1, l2, l3, true, l5, l6, l7, l8, l9, l10, l11, true, true, l14, l15, rfl, rfl, HF⟩
     ·
      obtain rfl : l14 = false := (AnyOrder.mem_ready hi).2.1
      obtain rfl : l0 = true := AnyOrder.dep (q := 0) hi rfl rfl rfl
      obtain rfl : l11 = true := AnyOrder.dep (q := 1) hi rfl rfl rfl
      clear hi
      simp only [sel_true, selv_true] at hK ⊢
      refine AnyOrder.wpOp_go rfl (by rfl) ?_
      go_wp2_with fail
      exact ⟨true, l1, l2, l3, l4, l5, l6, l7, l8, l9, l10, true, l12, l13, true, l15, rfl, rfl, HF⟩
     ·
      obtain rfl : l15 = false := (AnyOrder.mem_ready hi).2.1
      obtain rfl : l13 = true := AnyOrder.dep (q := 0) hi rfl rfl rfl
      obtain rfl : l14 = true := AnyOrder.dep (q := 1) hi rfl rfl rfl
      obtain rfl : l0 = true := AnyOrder.dep (q := 2) hi rfl rfl rfl
      obtain rfl : l1 = true := AnyOrder.dep (q := 3) hi rfl rfl rfl
      obtain rfl : l2 = true := AnyOrder.dep (q := 4) hi rfl rfl rfl
      obtain rfl : l3 = true := AnyOrder.dep (q := 5) hi rfl rfl rfl
      obtain rfl : l4 = true := AnyOrder.dep (q := 6) hi rfl rfl rfl
      obtain rfl : l5 = true := AnyOrder.dep (q := 7) hi rfl rfl rfl
      obtain rfl : l6 = true := AnyOrder.dep (q := 8) hi rfl rfl rfl
      obtain rfl : l7 = true := AnyOrder.dep (q := 9) hi rfl rfl rfl
      obtain rfl : l8 = true := AnyOrder.dep (q := 10) hi rfl rfl rfl
      obtain rfl : l9 = true := AnyOrder.dep (q := 11) hi rfl rfl rfl
      obtain rfl : l10 = true := AnyOrder.dep (q := 12) hi rfl rfl rfl
      obtain rfl : l11 = true := AnyOrder.dep (q := 13) hi rfl rfl rfl
      obtain rfl : l12 = true := AnyOrder.dep (q := 14) hi rfl rfl rfl
      clear hi
      simp only [sel_true, selv_true] at hK ⊢
      refine AnyOrder.wpOp_go rfl (by rfl) ?_
      go_wp2_with fail
      exact ⟨true, true, true, true, true, true, true, true, true, true, true, true, true, true, true, true, rfl, rfl, HF⟩
    case last =>
     rintro L ac V ⟨l0, l1, l2, l3, l4, l5, l6, l7, l8, l9, l10, l11, l12, l13, l14, l15, rfl, rfl, HF⟩ hr
     have hall := AnyOrder.all_listed rfl (by kernel_rfl) hr
     clear hr
     obtain rfl : l0 = true := hall 0 (by decide)
     obtain rfl : l1 = true := hall 1 (by decide)
     obtain rfl : l2 = true := hall 2 (by decide)
     obtain rfl : l3 = true := hall 3 (by decide)
     obtain rfl : l4 = true := hall 4 (by decide)
     obtain rfl : l5 = true := hall 5 (by decide)
     obtain rfl : l6 = true := hall 6 (by decide)
     obtain rfl : l7 = true := hall 7 (by decide)
     obtain rfl : l8 = true := hall 8 (by decide)
     obtain rfl : l9 = true := hall 9 (by decide)
     obtain rfl : l10 = true := hall 10 (by decide)
     obtain rfl : l11 = true := hall 11 (by decide)
     obtain rfl : l12 = true := hall 12 (by decide)
     obtain rfl : l13 = true := hall 13 (by decide)
     obtain rfl : l14 = true := hall 14 (by decide)
     obtain rfl : l15 = true := hall 15 (by decide)
     clear hall
     simp only [sel_true, selv_true]
     go_wp2
     refine bodyPost_ret (results_tmp2 rfl _ _ _) rfl ?_
     exact ⟨by rw [HR.out]; rfl, HF.out.below⟩
   ·
    obtain rfl : n = q := by omega
    have HR : Aside0 (hf = false) := ⟨by rw [← HHF.out, hasK, HQ.out, List.getElem?_eq_none (by rw [HE.out.kl]; exact Nat.le_refl _)]; rfl⟩
    go_wp2_with fail
    refine AnyOrder.wp_region (by kernel_rfl) (bsfInv w A w.heap.size bm n c d u11 (.slice A n c) (.int .i64 n) (.int .i64 n) (.int .i64 n) (.int .i64 n) (.bool false) u18 u19 u20 u21 u22 u23 u24 u25 u26 u27 u28 u29 u30 u31 u32 u33 u34) ?start ?step ?last
    case start => exact ⟨false, false, false, false, false, false, false, false, false, false, false, false, false, false, false, false, rfl, rfl, ⟨HB.out.drew⟩⟩
    case step =>
     rintro L ac V i ⟨l0, l1, l2, l3, l4, l5, l6, l7, l8, l9, l10, l11, l12, l13, l14, l15, rfl, rfl, HF⟩ hi K hK
     have h1 : i = 0 ∨ i = 1 ∨ i = 2 ∨ i = 3 ∨ i = 4 ∨ i = 5 ∨ i = 6 ∨ i = 7 ∨ i = 8 ∨ i = 9 ∨ i = 10 ∨ i = 11 ∨ i = 12 ∨ i = 13 ∨ i = 14 ∨ i = 15 := by
      have h1 := (AnyOrder.mem_ready hi).1
      clear hi hK
      change i < 16 at h1
      omega
     rcases h1 with rfl | rfl | rfl | rfl | rfl | rfl | rfl | rfl | rfl | rfl | rfl | rfl | rfl | rfl | rfl | rfl
     ·
      obtain rfl : l0 = false := (AnyOrder.mem_ready hi).2.1
      clear hi
      refine AnyOrder.wpOp_go rfl (by rfl) ?_
      go_wp2_with fail
      exact ⟨true, l1, l2, l3, l4, l5, l6, l7, l8, l9, l10, l11, l12, l13, l14, l15, rfl, rfl, HF⟩
     ·
      obtain rfl : l1 = false := (AnyOrder.mem_ready hi).2.1
      clear hi
      refine AnyOrder.wpOp_go rfl (by rfl) ?_
      go_wp2_with fail
      exact ⟨l0, true, l2, l3, l4, l5, l6, l7, l8, l9, l10, l11, l12, l13, l14, l15, rfl, rfl, HF⟩
     ·
      obtain rfl : l2 = false := (AnyOrder.mem_ready hi).2.1
      clear hi
      refine AnyOrder.wpOp_go rfl (by rfl) ?_
      go_wp2_with fail
      exact ⟨l0, l1, true, l3, l4, l5, l6, l7, l8, l9, l10, l11, l12, l13, l14, l15, rfl, rfl, HF⟩
     ·
      obtain rfl : l3 = false := (AnyOrder.mem_ready hi).2.1
      obtain rfl : l1 = true := AnyOrder.dep (q := 0) hi rfl rfl rfl
      obtain rfl : l2 = true := AnyOrder.dep (q := 1) hi rfl rfl rfl
      clear hi
      simp only [sel_true, selv_true] at hK ⊢
      have hh : decide ((n : Int) < (n : Int)) = false := decide_eq_false (by omega)
      refine AnyOrder.wpOp_go rfl (by rfl) ?_
      go_wp2_with fail
      exact ⟨l0, true, true, true, l4, l5, l6, l7, l8, l9, l10, l11, l12, l13, l14, l15, rfl, rfl, HF⟩
     ·
      obtain rfl : l4 = false := (AnyOrder.mem_ready hi).2.1
      obtain rfl : l3 = true := AnyOrder.dep (q := 0) hi rfl rfl rfl
      clear hi
      simp only [sel_true, selv_true] at hK ⊢
      refine AnyOrder.wpOp_go rfl (by rfl) ?_
      go_wp2_with fail
      exact ⟨l0, l1, l2, true, true, l5, l6, l7, l8, l9, l10, l11, l12, l13, l14, l15, rfl, rfl, HF⟩
     ·
      obtain rfl : l5 = false := (AnyOrder.mem_ready hi).2.1
      obtain rfl : l4 = true := AnyOrder.dep (q := 0) hi rfl rfl rfl
      clear hi
      simp only [sel_true, selv_true] at hK ⊢
      refine AnyOrder.wpOp_out rfl (by rfl) ?_
      exact hK _ _ ⟨l0, l1, l2, l3, true, true, l6, l7, l8, l9, l10, l11, l12, l13, l14, l15, rfl, rfl, HF⟩
     ·
      obtain rfl : l6 = false := (AnyOrder.mem_ready hi).2.1
      obtain rfl : l4 = true := AnyOrder.dep (q := 0) hi rfl rfl rfl
      clear hi
      simp only [sel_true, selv_true] at hK ⊢
      refine AnyOrder.wpOp_out rfl (by rfl) ?_
      exact hK _ _ ⟨l0, l1, l2, l3, true, l5, true, l7, l8, l9, l10, l11, l12, l13, l14, l15, rfl, rfl, HF⟩
     ·
      obtain rfl : l7 = false := (AnyOrder.mem_ready hi).2.1
      obtain rfl : l4 = true := AnyOrder.dep (q := 0) hi rfl rfl rfl
      clear hi
      simp only [sel_true, selv_true] at hK ⊢
      refine AnyOrder.wpOp_out rfl (by rfl) ?_
      exact hK _ _ ⟨l0, l1, l2, l3, true, l5, l6, true, l8, l9, l10, l11, l12, l13, l14, l15, rfl, rfl, HF⟩
     ·
      obtain rfl : l8 = false := (AnyOrder.mem_ready hi).2.1
      obtain rfl : l4 = true := AnyOrder.dep (q := 2) hi rfl rfl rfl
      clear hi
      simp only [sel_true, selv_true] at hK ⊢
      refine AnyOrder.wpOp_out rfl (by rfl) ?_
      exact hK _ _ ⟨l0, l1, l2, l3, true, l5, l6, l7, true, l9, l10, l11, l12, l13, l14, l15, rfl, rfl, HF⟩
     ·
      obtain rfl : l9 = false := (AnyOrder.mem_ready hi).2.1
      obtain rfl : l4 = true := AnyOrder.dep (q := 1) hi rfl rfl rfl
      clear hi
      simp only [sel_true, selv_true] at hK ⊢
      refine AnyOrder.wpOp_out rfl (by rfl) ?_
      exact hK _ _ ⟨l0, l1, l2, l3, true, l5, l6, l7, l8, true, l10, l11, l12, l13, l14, l15, rfl, rfl, HF⟩
     ·
      obtain rfl : l10 = false := (AnyOrder.mem_ready hi).2.1
      obtain rfl : l4 = true := AnyOrder.dep (q := 0) hi rfl rfl rfl
      clear hi
      simp only [sel_true, selv_true] at hK ⊢
      refine AnyOrder.wpOp_out rfl (by rfl) ?_
      exact hK _ _ ⟨l0, l1, l2, l3, true, l5, l6, l7, l8, l9, true, l11, l12, l13, l14, l15, rfl, rfl, HF⟩
     ·
      obtain rfl : l11 = false := (AnyOrder.mem_ready hi).2.1
      obtain rfl : l4 = true := AnyOrder.dep (q := 3) hi rfl rfl rfl
      clear hi
      simp only [sel_true, selv_true] at hK ⊢
      refine AnyOrder.wpOp_out rfl (by rfl) ?_
      exact hK _ _ ⟨l0, l1, l2, l3, true, l5, l6, l7, l8, l9, l10, true, l12, l13, l14, l15, rfl, rfl, HF⟩
     ·
      obtain rfl : l12 = false := (AnyOrder.mem_ready hi).2.1
      obtain rfl : l4 = true := AnyOrder.dep (q := 1) hi rfl rfl rfl
      clear hi
      simp only [sel_true, selv_true] at hK ⊢
      refine AnyOrder.wpOp_out rfl (by rfl) ?_
      exact hK _ _ ⟨l0, l1, l2, l3, true, l5, l6, l7, l8, l9, l10, l11, true, l13, l14, l15, rfl, rfl, HF⟩
     ·
      obtain rfl : l13 = false := (AnyOrder.mem_ready hi).2.1
      obtain rfl : l4 = true := AnyOrder.dep (q := 0) hi rfl rfl rfl
      obtain rfl : l12 = true := AnyOrder.dep (q := 1) hi rfl rfl rfl
      clear hi
      simp only [sel_true, selv_true] at hK ⊢
      refine AnyOrder.wpOp_go rfl (by rfl) ?_
      go_wp2_with fail
      exact ⟨l0, l1, l2, l3, true, l5, l6, l7, l8, l9, l10, l11, true, true, l14, l15, rfl, rfl, HF⟩
     ·
      obtain rfl : l14 = false := (AnyOrder.mem_ready hi).2.1
      obtain rfl : l0 = true := AnyOrder.dep (q := 0) hi rfl rfl rfl
      obtain rfl : l11 = true := AnyOrder.dep (q := 1) hi rfl rfl rfl
      clear hi
      simp only [sel_true, selv_true] at hK ⊢
      refine AnyOrder.wpOp_go rfl (by rfl) ?_
      go_wp2_with fail
      exact ⟨true, l1, l2, l3, l4, l5, l6, l7, l8, l9, l10, true, l12, l13, true, l15, rfl, rfl, HF⟩
     ·
      obtain rfl : l15 = false := (AnyOrder.mem_ready hi).2.1
      obtain rfl : l13 = true := AnyOrder.dep (q := 0) hi rfl rfl rfl
      obtain rfl : l14 = true := AnyOrder.dep (q := 1) hi rfl rfl rfl
      obtain rfl : l0 = true := AnyOrder.dep (q := 2) hi rfl rfl rfl
      obtain rfl : l1 = true := AnyOrder.dep (q := 3) hi rfl rfl rfl
      obtain rfl : l2 = true := AnyOrder.dep (q := 4) hi rfl rfl rfl
      obtain rfl : l3 = true := AnyOrder.dep (q := 5) hi rfl rfl rfl
      obtain rfl : l4 = true := AnyOrder.dep (q := 6) hi rfl rfl rfl
      obtain rfl : l5 = true := AnyOrder.dep (q := 7) hi rfl rfl rfl
      obtain rfl : l6 = true := AnyOrder.dep (q := 8) hi rfl rfl rfl
      obtain rfl : l7 = true := AnyOrder.dep (q := 9) hi rfl rfl rfl
      obtain rfl : l8 = true := AnyOrder.dep (q := 10) hi rfl rfl rfl
      obtain rfl : l9 = true := AnyOrder.dep (q := 11) hi rfl rfl rfl
      obtain rfl : l10 = true := AnyOrder.dep (q := 12) hi rfl rfl rfl
      obtain rfl : l11 = true := AnyOrder.dep (q := 13) hi rfl rfl rfl
      obtain rfl : l12 = true := AnyOrder.dep (q := 14) hi rfl rfl rfl
      clear hi
      simp only [sel_true, selv_true] at hK ⊢
      refine AnyOrder.wpOp_go rfl (by rfl) ?_
      go_wp2_with fail
      exact ⟨true, true, true, true, true, true, true, true, true, true, true, true, true, true, true, true, rfl, rfl, HF⟩
    case last =>
     rintro L ac V ⟨l0, l1, l2, l3, l4, l5, l6, l7, l8, l9, l10, l11, l12, l13, l14, l15, rfl, rfl, HF⟩ hr
     have hall := AnyOrder.all_listed rfl (by kernel_rfl) hr
     clear hr
     obtain rfl : l0 = true := hall 0 (by decide)
     obtain rfl : l1 = true := hall 1 (by decide)
     obtain rfl : l2 = true := hall 2 (by decide)
     obtain rfl : l3 = true := hall 3 (by decide)
     obtain rfl : l4 = true := hall 4 (by decide)
     obtain rfl : l5 = true := hall 5 (by decide)
     obtain rfl : l6 = true := hall 6 (by decide)
     obtain rfl : l7 = true := hall 7 (by decide)
     obtain rfl : l8 = true := hall 8 (by decide)
     obtain rfl : l9 = true := hall 9 (by decide)
     obtain rfl : l10 = true := hall 10 (by decide)
     obtain rfl : l11 = true := hall 11 (by decide)
     obtain rfl : l12 = true := hall 12 (by decide)
     obtain rfl : l13 = true := hall 13 (by decide)
     obtain rfl : l14 = true := hall 14 (by decide)
     obtain rfl : l15 = true := hall 15 (by decide)
     clear hall
     simp only [sel_true, selv_true]
     go_wp2
     refine bodyPost_ret (results_tmp2 rfl _ _ _) rfl ?_
     exact ⟨by rw [HR.out]; rfl, HF.out.below⟩
theorem eql_func_nil (W : World) : (binOp .eql 78 cmpV .nilFunc).run Tryz.prog W = .ok (.bool false) W := by
 have h : ∀ d : Nat, (Op.equalIn (d + 1) 78 cmpV .nilFunc).run Tryz.prog W = .ok false W := fun d => by
  simp [Op.equalIn, run_underlying Tryz.underlying78]
 simp only [binOp]
 simp [Op.equal, Op.maxDepth, h 9999]
set_option maxRecDepth 100000 in
theorem zero_call (mp : Nat) (sl : Value) (w : World) (hmp : w.heap[mp]? = some (.cells #[cmpV, sl] 173 (0, 0))) : Calls Tryz.prog 136 #[.pointer (some ⟨mp, 0, none⟩)] w fun e w' => e = .returned (.bool false) ∧ w' = w := by
 have c0 : w.cell? ⟨mp, 0, none⟩ = _ := (blk_cell hmp 0).trans rfl
 have hq := eql_func_nil
 clear hmp
 go_enter Tryz.func136, Tryz.ntmps136
 go_wp2
 go_ret
 exact ⟨rfl, rfl⟩
structure Fnd (W0 : World) (mp bm B : Nat) (A : Option Addr) (n c : Nat) (ks : List Dot) (vs : List Value) (d : Dot) (V : World) : Prop where
 below : Below W0.heap.size W0 V
 map : W0.heap[mp]? = some (.cells #[cmpV, .slice A n c] 173 (0, 0))
 box : W0.heap[bm]? = some (.cells #[.pointer (some ⟨mp, 0, none⟩)] 143 (0, 0))
 key : W0.heap[B]? = some (.cells #[.int .i64 d.f0, .int .i64 d.f1] 25 (0, 0))
 ents : Ents W0 A n ks vs
theorem Fnd.more {W0 V V' : World} {mp bm B : Nat} {A : Option Addr} {n c : Nat} {ks : List Dot} {vs : List Value} {d : Dot} (h : Fnd W0 mp bm B A n c ks vs d V) (hb : Below V.heap.size V V') : Fnd W0 mp bm B A n c ks vs d V' := ⟨below_more h.below hb, h.map, h.box, h.key, h.ents⟩
def findInv (W0 : World) (mp bm B : Nat) (A : Option Addr) (n c : Nat) (ks : List Dot) (vs : List Value) (d : Dot) (L : Array Bool) (ac : Act) (V : World) : Prop := ∃ (l0 l1 l2 l3 l4 l5 l6 l7 l8 l9 l10 : Bool), L = #[l0, l1, l2, l3, l4, l5, l6, l7, l8, l9, l10] ∧ ac = { tmps := #[.pointer (some ⟨mp, 0, none⟩), vDot d, .pointer (some ⟨bm, 0, none⟩), .pointer (some ⟨B, 0, none⟩), selv l9 (.int .i64 (posK ks d)) (.int .i64 0), selv l10 (.bool (hasK ks d)) (.bool false), .pointer (some ⟨mp, 0, none⟩), .bool false, sel l0 (.pointer (some ⟨mp, 0, none⟩)), sel l1 (.pointer (some ⟨mp, 0, none⟩)), sel l2 (.pointer (some ⟨mp, 1, none⟩)), sel l3 (.slice A n c), sel l4 (vDot d), sel l5 (.func (.func 142) #[] #[.pointer (some ⟨bm, 0, none⟩)]), sel l6 (.tuple #[.int .i64 (posK ks d), .bool (hasK ks d)]), sel l7 (.int .i64 (posK ks d)), sel l8 (.bool (hasK ks d))], defers := [] } ∧ Aside0 (Fnd W0 mp bm B A n c ks vs d V)
set_option maxHeartbeats 1000000 in
set_option maxRecDepth 100000 in
theorem find_call (mp : Nat) (ks : List Dot) (vs : List Value) (A : Option Addr) (n c : Nat) (d : Dot) (w : World) (hs : incB ks = true) (he : Ents w A n ks vs) (hmp : w.heap[mp]? = some (.cells #[cmpV, .slice A n c] 173 (0, 0))) :
  Calls Tryz.prog 135 #[.pointer (some ⟨mp, 0, none⟩), vDot d] w fun e w' => e = .returned (.tuple #[.int .i64 (posK ks d), .bool (hasK ks d)]) ∧ Below w.heap.size w w' := by
 have HS := Aside0.mk hs
 have HF0 : Aside0 (Fnd ((w.alloc (.cells #[.pointer (some ⟨mp, 0, none⟩)] 143 (0, 0))).alloc (.cells #[.int .i64 d.f0, .int .i64 d.f1] 25 (0, 0))) mp w.heap.size (w.heap.size + 1) A n c ks vs d ((w.alloc (.cells #[.pointer (some ⟨mp, 0, none⟩)] 143 (0, 0))).alloc (.cells #[.int .i64 d.f0, .int .i64 d.f1] 25 (0, 0)))) := ⟨⟨Below.refl _ _, blk_alloc (blk_alloc hmp _) _, blk_alloc (blk_new _ _) _, by have := blk_new (w.alloc (.cells #[.pointer (some ⟨mp, 0, none⟩)] 143 (0, 0))) (.cells #[.int .i64 d.f0, .int .i64 d.f1] 25 (0, 0)); rwa [World.size_alloc] at this, he.below (((Gr.alloc w _).trans (Gr.alloc _ _)).below)⟩⟩
 have HW := Aside0.mk ((Gr.alloc w (.cells #[.pointer (some ⟨mp, 0, none⟩)] 143 (0, 0))).trans (Gr.alloc _ (.cells #[.int .i64 d.f0, .int .i64 d.f1] 25 (0, 0)))).below
 clear hs he hmp
 go_enter Tryz.func135, Tryz.ntmps135
 go_wp2_with fail
 refine (zero_call mp _ _ HF0.out.map).mono ?_
 rintro e w1 ⟨rfl, rfl⟩
 go_wp2_with fail
 refine AnyOrder.wp_region (by kernel_rfl) (findInv ((w.alloc (.cells #[.pointer (some ⟨mp, 0, none⟩)] 143 (0, 0))).alloc (.cells #[.int .i64 d.f0, .int .i64 d.f1] 25 (0, 0))) mp w.heap.size (w.heap.size + 1) A n c ks vs d) ?start ?step ?last
 case start => exact ⟨false, false, false, false, false, false, false, false, false, false, false, rfl, rfl, ⟨HF0.out.more (Gr.drew _).below⟩⟩
 case step =>
  rintro L ac V i ⟨l0, l1, l2, l3, l4, l5, l6, l7, l8, l9, l10, rfl, rfl, HF⟩ hi K hK
  have h1 : i = 0 ∨ i = 1 ∨ i = 2 ∨ i = 3 ∨ i = 4 ∨ i = 5 ∨ i = 6 ∨ i = 7 ∨ i = 8 ∨ i = 9 ∨ i = 10 := by
   have h1 := (AnyOrder.mem_ready hi).1
   clear hi hK
   change i < 11 at h1
   omega
  rcases h1 with rfl | rfl | rfl | rfl | rfl | rfl | rfl | rfl | rfl | rfl | rfl
  ·
   obtain rfl : l0 = false := (AnyOrder.mem_ready hi).2.1
   clear hi
   have cb0 : V.cell? ⟨w.heap.size, 0, none⟩ = _ := (blk_cell (blk_keep HF.out.box HF.out.below) 0).trans rfl
   refine AnyOrder.wpOp_go rfl (by rfl) ?_
   go_wp2_with fail
   exact ⟨true, l1, l2, l3, l4, l5, l6, l7, l8, l9, l10, rfl, rfl, HF⟩
  ·
   obtain rfl : l1 = false := (AnyOrder.mem_ready hi).2.1
   obtain rfl : l0 = true := AnyOrder.dep (q := 0) hi rfl rfl rfl
   clear hi
   simp only [sel_true, selv_true] at hK ⊢
   refine AnyOrder.wpOp_go rfl (by rfl) ?_
   go_wp2_with fail
   exact ⟨true, true, l2, l3, l4, l5, l6, l7, l8, l9, l10, rfl, rfl, HF⟩
  ·
   obtain rfl : l2 = false := (AnyOrder.mem_ready hi).2.1
   obtain rfl : l1 = true := AnyOrder.dep (q := 0) hi rfl rfl rfl
   clear hi
   simp only [sel_true, selv_true] at hK ⊢
   refine AnyOrder.wpOp_go rfl (by rfl) ?_
   go_wp2_with fail
   exact ⟨l0, true, true, l3, l4, l5, l6, l7, l8, l9, l10, rfl, rfl, HF⟩
  ·
   obtain rfl : l3 = false := (AnyOrder.mem_ready hi).2.1
   obtain rfl : l2 = true := AnyOrder.dep (q := 0) hi rfl rfl rfl
   clear hi
   simp only [sel_true, selv_true] at hK ⊢
   have cm1 : V.cell? ⟨mp, 1, none⟩ = _ := (blk_cell (blk_keep HF.out.map HF.out.below) 1).trans rfl
   refine AnyOrder.wpOp_go rfl (by rfl) ?_
   go_wp2_with fail
   exact ⟨l0, l1, true, true, l4, l5, l6, l7, l8, l9, l10, rfl, rfl, HF⟩
  ·
   obtain rfl : l4 = false := (AnyOrder.mem_ready hi).2.1
   clear hi
   have ck0 : V.cell? ⟨w.heap.size + 1, 0, none⟩ = _ := (blk_cell (blk_keep HF.out.key HF.out.below) 0).trans rfl
   have ck1 : V.cell? ⟨w.heap.size + 1, 1, none⟩ = _ := (blk_cell (blk_keep HF.out.key HF.out.below) 1).trans rfl
   refine AnyOrder.wpOp_go rfl (by rfl) ?_
   go_wp2_with fail
   exact ⟨l0, l1, l2, l3, true, l5, l6, l7, l8, l9, l10, rfl, rfl, HF⟩
  ·
   obtain rfl : l5 = false := (AnyOrder.mem_ready hi).2.1
   clear hi
   refine AnyOrder.wpOp_go rfl (by rfl) ?_
   go_wp2_with fail
   exact ⟨l0, l1, l2, l3, l4, true, l6, l7, l8, l9, l10, rfl, rfl, HF⟩
  ·
   obtain rfl : l6 = false := (AnyOrder.mem_ready hi).2.1
   obtain rfl : l3 = true := AnyOrder.dep (q := 0) hi rfl rfl rfl
   obtain rfl : l4 = true := AnyOrder.dep (q := 1) hi rfl rfl rfl
   obtain rfl : l5 = true := AnyOrder.dep (q := 2) hi rfl rfl rfl
   clear hi
   simp only [sel_true, selv_true] at hK ⊢
   refine AnyOrder.wpOp_go rfl (by rfl) ?_
   go_wp2_with fail
   refine (bsearch_call ks vs A n c d w.heap.size mp _ V HS.out (HF.out.ents.below HF.out.below) (blk_keep HF.out.box HF.out.below) (blk_keep HF.out.map HF.out.below)).mono ?_
   rintro e V' ⟨rfl, hb⟩
   exact hK _ _ ⟨l0, l1, l2, true, true, true, true, l7, l8, l9, l10, rfl, rfl, ⟨HF.out.more hb⟩⟩
  ·
   obtain rfl : l7 = false := (AnyOrder.mem_ready hi).2.1
   obtain rfl : l6 = true := AnyOrder.dep (q := 0) hi rfl rfl rfl
   clear hi
   simp only [sel_true, selv_true] at hK ⊢
   refine AnyOrder.wpOp_go rfl (by rfl) ?_
   go_wp2_with fail
   exact ⟨l0, l1, l2, l3, l4, l5, true, true, l8, l9, l10, rfl, rfl, HF⟩
  ·
   obtain rfl : l8 = false := (AnyOrder.mem_ready hi).2.1
   obtain rfl : l6 = true := AnyOrder.dep (q := 0) hi rfl rfl rfl
   clear hi
   simp only [sel_true, selv_true] at hK ⊢
   refine AnyOrder.wpOp_go rfl (by rfl) ?_
   go_wp2_with fail
   exact ⟨l0, l1, l2, l3, l4, l5, true, l7, true, l9, l10, rfl, rfl, HF⟩
  ·
   obtain rfl : l9 = false := (AnyOrder.mem_ready hi).2.1
   obtain rfl : l7 = true := AnyOrder.dep (q := 0) hi rfl rfl rfl
   obtain rfl : l6 = true := AnyOrder.dep (q := 1) hi rfl rfl rfl
   obtain rfl : l0 = true := AnyOrder.dep (q := 2) hi rfl rfl rfl
   obtain rfl : l1 = true := AnyOrder.dep (q := 3) hi rfl rfl rfl
   obtain rfl : l2 = true := AnyOrder.dep (q := 4) hi rfl rfl rfl
   obtain rfl : l3 = true := AnyOrder.dep (q := 5) hi rfl rfl rfl
   obtain rfl : l4 = true := AnyOrder.dep (q := 6) hi rfl rfl rfl
   obtain rfl : l5 = true := AnyOrder.dep (q := 7) hi rfl rfl rfl
   obtain rfl : l8 = true := AnyOrder.dep (q := 10) hi rfl rfl rfl
   clear hi
   simp only [sel_true, selv_true] at hK ⊢
   refine AnyOrder.wpOp_go rfl (by rfl) ?_
   go_wp2_with fail
   exact ⟨true, true, true, true, true, true, true, true, true, true, l10, rfl, rfl, HF⟩
  ·
   obtain rfl : l10 = false := (AnyOrder.mem_ready hi).2.1
   obtain rfl : l8 = true := AnyOrder.dep (q := 0) hi rfl rfl rfl
   obtain rfl : l9 = true := AnyOrder.dep (q := 1) hi rfl rfl rfl
   obtain rfl : l0 = true := AnyOrder.dep (q := 2) hi rfl rfl rfl
   obtain rfl : l1 = true := AnyOrder.dep (q := 3) hi rfl rfl rfl
   obtain rfl : l2 = true := AnyOrder.dep (q := 4) hi rfl rfl rfl
   obtain rfl : l3 = true := AnyOrder.dep (q := 5) hi rfl rfl rfl
   obtain rfl : l4 = true := AnyOrder.dep (q := 6) hi rfl rfl rfl
   obtain rfl : l5 = true := AnyOrder.dep (q := 7) hi rfl rfl rfl
   obtain rfl : l6 = true := AnyOrder.dep (q := 8) hi rfl rfl rfl
   obtain rfl : l7 = true := AnyOrder.dep (q := 9) hi rfl rfl rfl
   clear hi
   simp only [sel_true, selv_true] at hK ⊢
   refine AnyOrder.wpOp_go rfl (by rfl) ?_
   go_wp2_with fail
   exact ⟨true, true, true, true, true, true, true, true, true, true, true, rfl, rfl, HF⟩
 case last =>
  rintro L ac V ⟨l0, l1, l2, l3, l4, l5, l6, l7, l8, l9, l10, rfl, rfl, HF⟩ hr
  have hall := AnyOrder.all_listed rfl (by kernel_rfl) hr
  clear hr
  obtain rfl : l0 = true := hall 0 (by decide)
  obtain rfl : l1 = true := hall 1 (by decide)
  obtain rfl : l2 = true := hall 2 (by decide)
  obtain rfl : l3 = true := hall 3 (by decide)
  obtain rfl : l4 = true := hall 4 (by decide)
  obtain rfl : l5 = true := hall 5 (by decide)
  obtain rfl : l6 = true := hall 6 (by decide)
  obtain rfl : l7 = true := hall 7 (by decide)
  obtain rfl : l8 = true := hall 8 (by decide)
  obtain rfl : l9 = true := hall 9 (by decide)
  obtain rfl : l10 = true := hall 10 (by decide)
  clear hall
  simp only [sel_true, selv_true]
  go_wp2
  refine bodyPost_ret (results_tmp2 rfl _ _ _) rfl ?_
  exact ⟨rfl, below_more HW.out HF.out.below⟩
def getV (ks : List Dot) (vs : List Value) (d : Dot) : Value := if hasK ks d = true then (vs[posK ks d]?).getD undef else .slice none 0 0
theorem hasK_lt {ks : List Dot} {d : Dot} (h : hasK ks d = true) : posK ks d < ks.length := by
 unfold hasK at h
 exact (List.getElem?_eq_some_iff.1 (of_decide_eq_true h)).1
set_option maxHeartbeats 1000000 in
set_option maxRecDepth 100000 in
theorem get_call (mp : Nat) (ks : List Dot) (vs : List Value) (A : Option Addr) (n c : Nat) (d : Dot) (w : World) (hs : incB ks = true) (he : Ents w A n ks vs) (hmp : w.heap[mp]? = some (.cells #[cmpV, .slice A n c] 173 (0, 0))) :
  Calls Tryz.prog 127 #[.pointer (some ⟨mp, 0, none⟩), vDot d] w fun e w' => e = .returned (.tuple #[getV ks vs d, .bool (hasK ks d)]) ∧ Below w.heap.size w w' := by
 have HS := Aside0.mk hs
 have hb1 := (Gr.alloc w (.cells #[.int .i64 d.f0, .int .i64 d.f1] 25 (0, 0))).below
 have HE := Aside0.mk (he.below hb1)
 have HM := Aside0.mk (blk_keep hmp hb1)
 have HK : Aside0 ((w.alloc (.cells #[.int .i64 d.f0, .int .i64 d.f1] 25 (0, 0))).heap[w.heap.size]? = some (.cells #[.int .i64 d.f0, .int .i64 d.f1] 25 (0, 0))) := ⟨blk_new _ _⟩
 have HB := Aside0.mk hb1
 have hc0 : (w.alloc (.cells #[.int .i64 d.f0, .int .i64 d.f1] 25 (0, 0))).cell? ⟨w.heap.size, 0, none⟩ = _ := (blk_cell HK.out 0).trans rfl
 have hc1 : (w.alloc (.cells #[.int .i64 d.f0, .int .i64 d.f1] 25 (0, 0))).cell? ⟨w.heap.size, 1, none⟩ = _ := (blk_cell HK.out 1).trans rfl
 clear hs he hmp hb1
 obtain ⟨q, HQ⟩ : ∃ q, Aside0 (posK ks d = q) := ⟨_, ⟨rfl⟩⟩
 obtain ⟨hf, HHF⟩ : ∃ hf, Aside0 (hasK ks d = hf) := ⟨_, ⟨rfl⟩⟩
 obtain ⟨rv, HRV⟩ : ∃ rv, Aside0 (getV ks vs d = rv) := ⟨_, ⟨rfl⟩⟩
 rw [HHF.out, HRV.out]
 go_enter Tryz.func127, Tryz.ntmps127
 go_wp2_with fail
 refine (find_call mp ks vs A n c d _ HS.out HE.out HM.out).mono ?_
 rintro e w1 ⟨rfl, hb⟩
 have HE := Aside0.mk (HE.out.below hb)
 have HM := Aside0.mk (blk_keep HM.out hb)
 have HB := Aside0.mk (below_more HB.out hb)
 rw [HQ.out, HHF.out]
 clear hc0 hc1 hb
 cases hf with
 | false =>
  go_wp2
  refine bodyPost_ret (results_tmp2 rfl _ _ _) rfl ?_
  exact ⟨by rw [← HRV.out, getV, HHF.out]; rfl, HB.out⟩
 | true =>
  have hqn : q < n := by have := hasK_lt HHF.out; rw [HQ.out, HE.out.kl] at this; exact this
  obtain ⟨k, v, eb, hk, hvk, hv1, rfl, c0, c1, c2⟩ := HE.out.get hqn
  have hm1 : w1.cell? ⟨mp, 1, none⟩ = _ := (blk_cell HM.out 1).trans rfl
  have HV : Aside0 (getV ks vs d = v) := ⟨by rw [getV, HHF.out, HQ.out, hvk]; rfl⟩
  clear hk hvk
  go_wp2
  refine bodyPost_ret (results_tmp2 rfl _ _ _) rfl ?_
  exact ⟨by rw [← HRV.out, HV.out]; rfl, HB.out⟩
end Go.Proofs.YtmbndijbpgobeaaGreat.PWalk
end
section
namespace Go.Proofs.YtmbndijbpgobeaaGreat.PWalk
open Go.RowKit Go.Proofs.YtmbndijbpgobeaaGreatW.PrintWords Go.Proofs.YtmbndijbpgobeaaGreatW.PrintLast Go.Proofs.YtmbndijbpgobeaaGreatW.PrintMore
attribute [local go_sem] max2_int max_two
set_option linter.unusedVariables false
set_option linter.unusedSimpArgs false
section
open Go.Shelf
attribute [local go_sem] Oper.semAt_some
theorem info128 : (Tryz.prog.info? 128).map (fun i => (i.zero, i.size, i.bytes)) = some (some (.agg #[(.int .i64 0), (.int .i64 0)]), 2, 16) := by kernel_rfl
set_option maxRecDepth 100000 in
theorem dotKey : MapLaw.MKey (κ := Dot) Tryz.prog 25 vDot where
 check := fun b x w => by
  unfold Instr.checkKey
  go_simp
  rfl
 equal := fun x y w => by
  unfold Op.equal Op.maxDepth
  rw [eqA25]
  congr 1
  rw [Bool.eq_iff_iff]
  simp [Dot.ext_iff']
 desc := ⟨_, Tryz.underlying25, .inl fun x y => rfl⟩
 bits := fun x => by simp [Instr.sameBits]
abbrev vNat (n : Nat) : Value := .int .i64 n
def flawOf (l : List Node) (m : List (Dot × Nat)) (i : Nat) : Int :=
 match l[i]? with
 | none => 0
 | some x =>
  if nodeOk x = false then 1
  else if 0 < i ∧ (match l[i - 1]? with | some p => dotLt p.f0 x.f0 | none => true) = false then 2
  else if dotRoot x.f1 = true then 0
  else match MapLaw.mget m x.f1 with
   | none => 3
   | some k => if (match l[k]? with | some p => decide (x.f2 ≤ p.f2) | none => false) = true then 4 else 0
theorem flawOf_at {l : List Node} {m : List (Dot × Nat)} {i : Nat} {x : Node} (hx : l[i]? = some x) : flawOf l m i =
  (if nodeOk x = false then 1
  else if 0 < i ∧ (match l[i - 1]? with | some p => dotLt p.f0 x.f0 | none => true) = false then 2
  else if dotRoot x.f1 = true then 0
  else match MapLaw.mget m x.f1 with
   | none => 3
   | some k => if (match l[k]? with | some p => decide (x.f2 ≤ p.f2) | none => false) = true then 4 else 0) := by
 unfold flawOf; rw [hx]
set_option maxHeartbeats 1000000 in
set_option maxRecDepth 100000 in
theorem flaw.calls (A0 : Option Addr) (c0 : Nat) (l0 : List Node) (b : Nat) (m : List (Dot × Nat)) (i : Nat) (w : World) (hr0 : Kd.C k53 w A0 l0.length l0) (hc0 : l0.length ≤ c0)
  (hl : l0.length ≤ 1000000) (hm : MapLaw.MapIs vDot vNat w b m) (hb : ∀ d k, MapLaw.mget m d = some k → k < l0.length) (hi : i < l0.length) :
  Calls Tryz.prog 101 #[.slice A0 l0.length c0, .map (some b), .int .i64 i] w fun e w' => e = .returned (.int .i64 (flawOf l0 m i)) ∧ Below w.heap.size w w' := by
 obtain ⟨x, hx⟩ : ∃ x, Aside0 (l0[i]? = some x) := ⟨_, ⟨List.getElem?_eq_getElem hi⟩⟩
 obtain ⟨ad, e, h0, h1, h2, h3, h4, h5⟩ := node_at hr0 (Below.refl _ _) i x hx.out
 subst e
 have HR := Aside0.mk hr0
 have HC := Aside0.mk hc0
 have HM := Aside0.mk hm
 have HB := Aside0.mk hb
 have HF := Aside0.mk (flawOf_at (m := m) hx.out)
 clear hr0 hc0 hm hb
 obtain ⟨q, is, HV, HI⟩ : ∃ (q : Nat) (is : Bool), Aside0 (((MapLaw.mget m x.f1).map vNat).getD (.int .i64 0) = vNat q) ∧ Aside0 ((MapLaw.mget m x.f1).isSome = is ∧ (is = true → MapLaw.mget m x.f1 = some q)) := by
  cases h : MapLaw.mget m x.f1 with
  | none => exact ⟨0, false, ⟨rfl⟩, ⟨rfl, by simp⟩⟩
  | some q => exact ⟨q, true, ⟨rfl⟩, ⟨rfl, fun _ => rfl⟩⟩
 have hu1 := Tryz.underlying25
 have hu2 := Tryz.underlying53
 go_enter Tryz.func101, Tryz.ntmps101
 go_wp2_with (first | (at_lookup; refine MapLaw.wpList_lookup rfl _ _ _ true rfl dotKey Tryz.underlying121 (z := .int .i64 0) Tryz.zeroValue2 x.f1 rfl rfl (HM.out.below ((Below.refl _ _).alloc (Nat.le_refl _) _)) HV.out HI.out.1 ?_) | fail)
 refine (dot_Root.calls _ _ _ _ (dotRoot_is _ _)).mono ?_
 rintro e W1 ⟨rfl, hd1⟩
 have BK1 := Aside0.mk (blk_keep (blk_new w _) hd1)
 have HW1 := Aside0.mk (below_more (below_alloc (Below.refl w.heap.size w) _) hd1)
 clear hd1 h0 h1 h2 h3 h4 h5
 obtain ⟨rt, HRT⟩ : ∃ rt, Aside0 (dotRoot x.f1 = rt) := ⟨_, ⟨rfl⟩⟩
 rw [show dotRoot ⟨x.f1.f0, x.f1.f1⟩ = rt from HRT.out]
 have hc0 : W1.cell? ⟨w.heap.size, 0, none⟩ = _ := (blk_cell BK1.out 0).trans rfl
 have hc1 : W1.cell? ⟨w.heap.size, 1, none⟩ = _ := (blk_cell BK1.out 1).trans rfl
 have hc2 : W1.cell? ⟨w.heap.size, 2, none⟩ = _ := (blk_cell BK1.out 2).trans rfl
 have hc3 : W1.cell? ⟨w.heap.size, 3, none⟩ = _ := (blk_cell BK1.out 3).trans rfl
 have hc4 : W1.cell? ⟨w.heap.size, 4, none⟩ = _ := (blk_cell BK1.out 4).trans rfl
 have hc5 : W1.cell? ⟨w.heap.size, 5, none⟩ = _ := (blk_cell BK1.out 5).trans rfl
 go_wp2_with fail
 refine (node_Valid.calls 1 _ _ _ _ _ _ _ _ (nodeValid_is 0 x)).mono ?_
 rintro e W2 ⟨rfl, hd2⟩
 have BK2 := Aside0.mk (blk_keep BK1.out hd2)
 have HW2 := Aside0.mk (below_more HW1.out hd2)
 clear hd2 hc0 hc1 hc2 hc3 hc4 hc5
 cases hok : nodeOk x with
 | false =>
  have HOK := Aside0.mk hok
  clear hok
  go_wp2
  go_ret
  exact ⟨by rw [HF.out, if_pos HOK.out]; rfl, HW2.out⟩
 | true =>
  have HOK := Aside0.mk hok
  clear hok
  have hc0 : W2.cell? ⟨w.heap.size, 0, none⟩ = _ := (blk_cell BK2.out 0).trans rfl
  have hc1 : W2.cell? ⟨w.heap.size, 1, none⟩ = _ := (blk_cell BK2.out 1).trans rfl
  have hc2 : W2.cell? ⟨w.heap.size, 2, none⟩ = _ := (blk_cell BK2.out 2).trans rfl
  have hc3 : W2.cell? ⟨w.heap.size, 3, none⟩ = _ := (blk_cell BK2.out 3).trans rfl
  have hc4 : W2.cell? ⟨w.heap.size, 4, none⟩ = _ := (blk_cell BK2.out 4).trans rfl
  have hc5 : W2.cell? ⟨w.heap.size, 5, none⟩ = _ := (blk_cell BK2.out 5).trans rfl
  by_cases h0 : 0 < i
  ·
   obtain ⟨p, hp⟩ : ∃ p, Aside0 (l0[i - 1]? = some p) := ⟨_, ⟨List.getElem?_eq_getElem (by omega)⟩⟩
   obtain ⟨ad2, e2, g0, g1, g2, g3, g4, g5⟩ := node_at HR.out HW2.out (i - 1) p hp.out
   cases e2
   have hb0 : decide ((i : Int) > 0) = true := by simp; omega
   have hb2 : i - 1 < l0.length := by omega
   have hb1 : IntKind.i64.wrap ((i : Int) - 1) = ((i - 1 : Nat) : Int) := by rw [IntWalk.i64_in _ (by omega)]; omega
   go_wp2_with fail
   go_still_tail 11, (by kernel_rfl)
   change wpList _ _ _ _ _ W2.drew
   go_wp2_with fail
   refine (dot_Compare.calls 3 _ _ _ _ _ _ (dotCompare_is 0 p.f0 x.f0)).mono ?_
   rintro e W3 ⟨rfl, hd3⟩
   have BK3 := Aside0.mk (blk_keep (blk_drew BK2.out) hd3)
   have HW3 := Aside0.mk (below_more HW2.out.drew hd3)
   clear hd3 hc0 hc1 hc2 hc3 hc4 hc5 g0 g1 g2 g3 g4 g5 hb1
   cases hlt : dotLt p.f0 x.f0 with
   | false =>
    have hge : decide (dotCmp p.f0 x.f0 ≥ 0) = true := decide_eq_true ((dotCmp_ge _ _).2 (by simp [hlt]))
    have HLT := Aside0.mk hlt
    clear hlt
    go_wp2
    go_ret
    exact ⟨by rw [HF.out, if_neg (by rw [HOK.out]; simp), if_pos ⟨h0, by rw [hp.out]; exact HLT.out⟩]; rfl, (by repeat (first | exact HW3.out | apply pw_below_drewN))⟩
   | true =>
    have hge : decide (dotCmp p.f0 x.f0 ≥ 0) = false := decide_eq_false (fun h => (dotCmp_ge _ _).1 h hlt)
    have NOTLT : Aside0 (¬ (0 < i ∧ (match l0[i - 1]? with | some p => dotLt p.f0 x.f0 | none => true) = false)) := ⟨by rw [hp.out]; simp [hlt]⟩
    clear hlt
    have hc0 : W3.cell? ⟨w.heap.size, 0, none⟩ = _ := (blk_cell BK3.out 0).trans rfl
    have hc4 : W3.cell? ⟨w.heap.size, 4, none⟩ = _ := (blk_cell BK3.out 4).trans rfl
    cases hrt : rt with
    | true =>
     have HRT2 : Aside0 (dotRoot x.f1 = true) := ⟨HRT.out.trans hrt⟩
     subst hrt
     go_wp2
     go_quiet (fail)
     go_wp2
     go_ret
     exact ⟨by rw [HF.out, if_neg (by rw [HOK.out]; simp), if_neg NOTLT.out, if_pos HRT2.out]; rfl, (by repeat (first | exact HW3.out | apply pw_below_drewN))⟩
    | false =>
     have HRT2 : Aside0 (¬ dotRoot x.f1 = true) := ⟨by rw [HRT.out, hrt]; simp⟩
     subst hrt
     cases his : is with
     | false =>
      have HNO : Aside0 (MapLaw.mget m x.f1 = none) := ⟨by have := HI.out.1; rw [his] at this; simpa using this⟩
      subst his
      go_wp2
      go_ret
      exact ⟨by rw [HF.out, if_neg (by rw [HOK.out]; simp), if_neg NOTLT.out, if_neg HRT2.out, HNO.out]; rfl, (by repeat (first | exact HW3.out | apply pw_below_drewN))⟩
     | true =>
      have HG : Aside0 (MapLaw.mget m x.f1 = some q) := ⟨HI.out.2 his⟩
      subst his
      have hq := HB.out _ _ HG.out
      obtain ⟨y, hy⟩ : ∃ y, Aside0 (l0[q]? = some y) := ⟨_, ⟨List.getElem?_eq_getElem hq⟩⟩
      obtain ⟨ad3, e3, f0, f1, f2, f3, f4, f5⟩ := node_at HR.out HW3.out q y hy.out
      cases e3
      cases hcmp : decide (y.f2 ≥ x.f2) with
      | true =>
       have HC2 := Aside0.mk hcmp
       go_wp2
       go_quiet (fail)
       go_wp2
       go_ret
       exact ⟨by rw [HF.out, if_neg (by rw [HOK.out]; simp), if_neg NOTLT.out, if_neg HRT2.out, HG.out]; simp only [hy.out]; rw [if_pos (by simpa using HC2.out)]; rfl, (by repeat (first | exact HW3.out | apply pw_below_drewN))⟩
      | false =>
       have HC2 := Aside0.mk hcmp
       go_wp2
       go_quiet (fail)
       go_wp2
       go_ret
       exact ⟨by rw [HF.out, if_neg (by rw [HOK.out]; simp), if_neg NOTLT.out, if_neg HRT2.out, HG.out]; simp only [hy.out]; rw [if_neg (by simpa using HC2.out)]; rfl, (by repeat (first | exact HW3.out | apply pw_below_drewN))⟩

  ·
   have hb0 : decide ((i : Int) > 0) = false := by simp; omega
   have NOTLT : Aside0 (¬ (0 < i ∧ (match l0[i - 1]? with | some p => dotLt p.f0 x.f0 | none => true) = false)) := ⟨fun h => h0 h.1⟩
   go_wp2_with fail
   go_quiet (fail)
   cases hrt : rt with
   | true =>
    have HRT2 : Aside0 (dotRoot x.f1 = true) := ⟨HRT.out.trans hrt⟩
    subst hrt
    go_wp2
    go_quiet (fail)
    go_wp2
    go_ret
    exact ⟨by rw [HF.out, if_neg (by rw [HOK.out]; simp), if_neg NOTLT.out, if_pos HRT2.out]; rfl, (by repeat (first | exact HW2.out | apply pw_below_drewN))⟩
   | false =>
    have HRT2 : Aside0 (¬ dotRoot x.f1 = true) := ⟨by rw [HRT.out, hrt]; simp⟩
    subst hrt
    cases his : is with
    | false =>
     have HNO : Aside0 (MapLaw.mget m x.f1 = none) := ⟨by have := HI.out.1; rw [his] at this; simpa using this⟩
     subst his
     go_wp2
     go_ret
     exact ⟨by rw [HF.out, if_neg (by rw [HOK.out]; simp), if_neg NOTLT.out, if_neg HRT2.out, HNO.out]; rfl, (by repeat (first | exact HW2.out | apply pw_below_drewN))⟩
    | true =>
     have HG : Aside0 (MapLaw.mget m x.f1 = some q) := ⟨HI.out.2 his⟩
     subst his
     have hq := HB.out _ _ HG.out
     obtain ⟨y, hy⟩ : ∃ y, Aside0 (l0[q]? = some y) := ⟨_, ⟨List.getElem?_eq_getElem hq⟩⟩
     obtain ⟨ad3, e3, f0, f1, f2, f3, f4, f5⟩ := node_at HR.out HW2.out q y hy.out
     cases e3
     cases hcmp : decide (y.f2 ≥ x.f2) with
     | true =>
      have HC2 := Aside0.mk hcmp
      go_wp2
      go_quiet (fail)
      go_wp2
      go_ret
      exact ⟨by rw [HF.out, if_neg (by rw [HOK.out]; simp), if_neg NOTLT.out, if_neg HRT2.out, HG.out]; simp only [hy.out]; rw [if_pos (by simpa using HC2.out)]; rfl, (by repeat (first | exact HW2.out | apply pw_below_drewN))⟩
     | false =>
      have HC2 := Aside0.mk hcmp
      go_wp2
      go_quiet (fail)
      go_wp2
      go_ret
      exact ⟨by rw [HF.out, if_neg (by rw [HOK.out]; simp), if_neg NOTLT.out, if_neg HRT2.out, HG.out]; simp only [hy.out]; rw [if_neg (by simpa using HC2.out)]; rfl, (by repeat (first | exact HW2.out | apply pw_below_drewN))⟩
/-- Blocks below n are as they were, but for those of E. -/
def KpE (n : Nat) (E : Nat → Prop) (W W' : World) : Prop := W.heap.size ≤ W'.heap.size ∧ ∀ i, i < n → ¬ E i → W'.heap[i]? = W.heap[i]?
theorem KpE.refl (n : Nat) (E : Nat → Prop) (W : World) : KpE n E W W := ⟨Nat.le_refl _, fun _ _ _ => rfl⟩
theorem KpE.trans {n : Nat} {E : Nat → Prop} {A B C : World} (h : KpE n E A B) (k : KpE n E B C) : KpE n E A C := ⟨Nat.le_trans h.1 k.1, fun i hi he => (k.2 i hi he).trans (h.2 i hi he)⟩
theorem KpE.below {n : Nat} {E : Nat → Prop} {W W' : World} (h : Below n W W') : KpE n E W W' := ⟨h.size, fun i hi _ => h.block i hi⟩
theorem KpE.grown {n : Nat} {E : Nat → Prop} {W W' : World} {row : Option Nat} (h : W.grownBy W' row) (hr : ∀ r, row = some r → E r) (hn : n ≤ W.heap.size) : KpE n E W W' :=
 ⟨h.size, fun i hi he => h.block i (by omega) (fun e => he (hr i e.symm))⟩
theorem KpE.cell {n : Nat} {E : Nat → Prop} {W W' : World} (h : KpE n E W W') {p : Addr} (hp : p.block < n) (he : ¬ E p.block) {v : Value} (hc : W.cell? p = some v) : W'.cell? p = some v := by
 rw [← hc]
 exact World.cell?_of_block (w := W) (h.2 _ hp he)
theorem KpE.put {n m : Nat} {E : Nat → Prop} (hn : n ≤ m) (W : World) (l : Nat) (o o' : Obj) (hl : m ≤ l) : KpE n E W (W.putObj l o') :=
 ⟨by simp [World.putObj], fun i hi _ => World.putObj_heap_other (by omega)⟩
/-- The elements with their indices, backwards. -/
def bk {α : Type} (l : List α) : List (Nat × α) := (l.zipIdx.map fun p => (p.2, p.1)).reverse
theorem bk_length {α : Type} (l : List α) : (bk l).length = l.length := by simp [bk]
theorem bk_get {α : Type} (l : List α) (k : Nat) (hk : k < l.length) : (bk l)[k]? = some (l.length - 1 - k, l[l.length - 1 - k]'(by omega)) := by
 unfold bk
 rw [List.getElem?_reverse (by simpa using hk)]
 simp only [List.length_map, List.length_zipIdx, List.getElem?_map, List.getElem?_zipIdx, Nat.zero_add]
 rw [List.getElem?_eq_getElem (by omega)]; rfl
theorem bk_take_succ {α : Type} (l : List α) (k : Nat) (hk : k < l.length) : (bk l).take (k + 1) = (bk l).take k ++ [(l.length - 1 - k, l[l.length - 1 - k]'(by omega))] := by
 have h := bk_get l k hk
 have hb : k < (bk l).length := by rw [bk_length]; exact hk
 rw [List.getElem?_eq_getElem hb] at h
 rw [List.take_succ_eq_append_getElem hb, Option.some.inj h]
theorem calls_of_wp_m {P : Program} {f : FuncId} {fn : Func} {c : Code} {args : Array Value} {w : World} {R : Ending → World → Prop} (hf : P.funcs[f]? = some fn) (hb : fn.body = some c)
  (h : c.wp P (bodyPostM Fence.wide 9 P fn R) { tmps := args ++ Array.replicate (fn.ntmps - args.size) undef, defers := [] } w) : Calls P f args w R :=
 (callsIn_wide (n := 9)).1 (callsIn_of_wp_marks hf hb trivial (wpIn_wide.2 h) rfl)
theorem MapLaw.MapIs.ownFrom {κ β γ : Type} {enc : κ → Value} {val : β → Value} {b B : Nat} {m : γ → List (κ × β)} (hb : b < B) : OwnFrom B (fun s W => MapLaw.MapIs enc val W b (m s)) :=
 fun s W W' row hs hg hr => hs.same (hg.block b hs.lt (fun e => by have := (hr b e.symm).1; omega))
theorem blk_own {γ : Type} {g t B : Nat} {cs : γ → Array Value} : OwnFrom B (fun s W => W.heap[g]? = some (.cells (cs s) t (0, 0))) :=
 fun s W W' row hs hg hr => (hg.block g (blk_lt hs) (fun e => by obtain ⟨_, o, ho, hc⟩ := hr g e.symm; rw [hs] at ho; cases ho; cases hc)).trans hs
theorem R_putObj {α : Type} {d : Kd α} {e base D : Nat} {ok : Nat → Prop} {w : World} {v : Value} {xs : List α} {o : Obj} (h : d.R e w base ok v xs) (hD : w.heap[D]? = some o) (hc : o.isCells = false) (o' : Obj) : d.R e (w.putObj D o') base ok v xs :=
 Kd.R_mono (Kd.R_grown (Kd.R_bound h) (grownBy_putObj' w D o') (fun k hk e => by cases e; obtain ⟨_, _, _, q, _, cells, hh⟩ := hk; rw [hD] at hh; cases hh; cases hc)) (fun _ hk => hk.1)
theorem R_apart_obj {α : Type} {d : Kd α} {e base g : Nat} {ok : Nat → Prop} {w : World} {v : Value} {xs : List α} {o : Obj} (h : d.R e w base ok v xs) (hg : w.heap[g]? = some o) (ho : ∀ cells, o ≠ .cells cells e (0, 0)) : some g ≠ v.ownBlock :=
 fun e' => by obtain ⟨cells, hh⟩ := Kd.R_typed h g e'.symm; rw [hg] at hh; exact ho _ (Option.some.inj hh)
theorem below_putObj {w W : World} (h : Below w.heap.size w W) {D : Nat} (hD : w.heap.size ≤ D) (o' : Obj) : Below w.heap.size w (W.putObj D o') :=
 h.grown (grownBy_putObj' W D o') h.size (fun k e => by cases e; exact hD)
def mkMark (D : Nat) : Deferred := { target := .collected D, args := #[] }
def Marks (n0 : Nat) (ds : List Deferred) (W : World) : Prop := ∃ Ds : List Nat, ds = Ds.map mkMark ∧ Ds.Nodup ∧ ∀ D ∈ Ds, n0 ≤ D ∧ W.heap[D]? = some (.deferred (some []))
structure OnlyMarks (n0 : Nat) (W W' : World) : Prop where
 os : W'.os = W.os
 tape : W'.tape = W.tape
 output : W'.output = W.output
 size : W'.heap.size = W.heap.size
 block : ∀ k, (k < n0 ∨ ∀ d, W.heap[k]? ≠ some (.deferred d)) → W'.heap[k]? = W.heap[k]?
theorem OnlyMarks.refl (n0 : Nat) (W : World) : OnlyMarks n0 W W := ⟨rfl, rfl, rfl, rfl, fun _ _ => rfl⟩
theorem OnlyMarks.step {n0 D : Nat} {W W' : World} (hD : n0 ≤ D) (hW : W.heap[D]? = some (.deferred (some []))) (h : OnlyMarks n0 (W.putObj D (.deferred none)) W') : OnlyMarks n0 W W' :=
 ⟨h.os, h.tape, h.output, by rw [h.size]; simp, fun k hk => by
  have hne : k ≠ D := by
   rcases hk with hk | hk
   ·
    omega
   ·
    intro e; subst e; exact hk _ hW
  have h1 : (W.putObj D (.deferred none)).heap[k]? = W.heap[k]? := World.putObj_heap_other hne
  exact (h.block k (hk.imp_right fun h2 d => by rw [h1]; exact h2 d)).trans h1⟩
theorem R_onlyMarks {α : Type} {d : Kd α} {e base n0 : Nat} {ok : Nat → Prop} {w w' : World} {v : Value} {xs : List α} (h : d.R e w base ok v xs) (hm : OnlyMarks n0 w w') : d.R e w' base ok v xs :=
 Kd.R_mono (Kd.R_step (Kd.R_bound h) (fun k hk _ => hm.block k (.inr fun o ho => by obtain ⟨_, _, _, q, _, cells, hh⟩ := hk; rw [ho] at hh; cases hh))) (fun _ hk => hk.1)
theorem below_onlyMarks {w W W' : World} (h : Below w.heap.size w W) (hm : OnlyMarks w.heap.size W W') : Below w.heap.size w W' :=
 ⟨hm.os.trans h.os, hm.tape.trans h.tape, hm.output.trans h.output, by rw [hm.size]; exact h.size, fun k hk => (hm.block k (.inl hk)).trans (h.block k hk)⟩
set_option maxRecDepth 100000 in
set_option maxHeartbeats 1000000 in
theorem bkNode_in (n lp Bs n₀ : Nat) (E : Nat → Prop) (A : Option Addr) (c0 : Nat) (xs : List Node) (hn : 1 ≤ n) (hm : xs.length ≤ 1000000) (J Jx : List (Nat × Node) → World → Prop)
  (hY : ∀ pre x W, J pre W → pre.length < xs.length → YieldAt Fence.wide (n - 1) Tryz.prog lp #[.int .i64 ((x : Nat × Node).1 : Int), vNode x.2] W fun e W' =>
   (e = .returned (.bool true) ∧ J (pre ++ [x]) W' ∧ KpE n₀ E W W') ∨ (e = .returned (.bool false) ∧ Jx (pre ++ [x]) W'))
  (W : World) (hBs : W.cell? ⟨Bs, 0, none⟩ = some (.slice A xs.length c0)) (hB0 : Bs < n₀) (hBE : ¬ E Bs) (hA : ∀ ad, A = some ad → 0 < xs.length → ad.block < n₀ ∧ ¬ E ad.block) (hr : Kd.C k53 W A xs.length xs) (h0 : J [] W) :
  CallsIn Fence.wide n Tryz.prog 116 #[.func (.yield lp) #[] #[], .pointer (some ⟨Bs, 0, none⟩)] W fun e W' => (∃ v, e = .returned v) ∧
   ((∃ ys, ys = bk xs ∧ J ys W') ∨ (∃ pre, pre <+: bk xs ∧ Jx pre W')) := by
 have hu := Tryz.underlying53
 have HY := Aside0.mk hY
 have HR := Aside0.mk hr
 have HA := Aside0.mk hA
 have HE := Aside0.mk hBE
 clear hY hr hA hBE
 refine callsIn_of_wp Tryz.func116 rfl trivial ?_ rfl
 simp only [Tryz.ntmps116, List.size_toArray, List.length_cons, List.length_nil, Nat.reduceAdd, Nat.reduceSub, Array.replicate_succ, Array.replicate_zero, List.push_toArray, List.append_toArray, List.nil_append, List.cons_append]
 gi_wp2
 gi_loopw [3] (fun i wr => ∃ k : Nat, k ≤ xs.length ∧ i = .int .i64 ((xs.length : Int) - 1 - k) ∧ Aside0 (J ((bk xs).take k) wr) ∧ Aside0 (KpE n₀ E W wr)) (fun i _ => (intOf i + 1).toNat)
 case atStart => exact ⟨0, Nat.zero_le _, by simp, ⟨h0⟩, ⟨KpE.refl _ _ _⟩⟩
 case round =>
  obtain ⟨k, hk, rfl, hJ, hK⟩ := hrel
  have hs : wr.cell? ⟨Bs, 0, none⟩ = some (.slice A xs.length c0) := hK.out.cell (p := ⟨Bs, 0, none⟩) hB0 HE.out hBs
  by_cases hlt : k < xs.length
  ·
   obtain ⟨x, hx⟩ : ∃ x, Aside0 (xs[xs.length - 1 - k]? = some x) := ⟨_, ⟨List.getElem?_eq_getElem (by omega)⟩⟩
   obtain ⟨ad, e, g0, g1, g2, g3, g4, g5⟩ := node_at HR.out (Below.refl _ _) _ x hx.out
   subst e
   obtain ⟨ha, hae⟩ := HA.out ad rfl (by omega)
   have hbl : (ad.add ((xs.length - 1 - k) * 6)).block = ad.block := by unfold Addr.add; split <;> rfl
   replace g0 := hK.out.cell (p := ad.add ((xs.length - 1 - k) * 6)) (by rw [hbl]; exact ha) (by rw [hbl]; exact hae) g0
   replace g1 := hK.out.cell (p := ⟨_, _, none⟩) (by simp only [hbl]; exact ha) (by simp only [hbl]; exact hae) g1
   replace g2 := hK.out.cell (p := ⟨_, _, none⟩) (by simp only [hbl]; exact ha) (by simp only [hbl]; exact hae) g2
   replace g3 := hK.out.cell (p := ⟨_, _, none⟩) (by simp only [hbl]; exact ha) (by simp only [hbl]; exact hae) g3
   replace g4 := hK.out.cell (p := ⟨_, _, none⟩) (by simp only [hbl]; exact ha) (by simp only [hbl]; exact hae) g4
   replace g5 := hK.out.cell (p := ⟨_, _, none⟩) (by simp only [hbl]; exact ha) (by simp only [hbl]; exact hae) g5
   clear hbl hae ha
   have hx' : x = xs[xs.length - 1 - k]'(by omega) := by have := hx.out; rw [List.getElem?_eq_getElem (by omega)] at this; exact (Option.some.inj this).symm
   have HT : Aside0 ((bk xs).take (k + 1) = (bk xs).take k ++ [(xs.length - 1 - k, x)]) := ⟨by rw [bk_take_succ xs k hlt, hx']⟩
   clear hx'
   have hi : ((xs.length : Int) - 1 - k) = ((xs.length - 1 - k : Nat) : Int) := by omega
   rw [hi]
   obtain ⟨j, hj⟩ : ∃ j, Aside0 (j = xs.length - 1 - k) := ⟨_, ⟨rfl⟩⟩
   rw [← hj.out] at g0 g1 g2 g3 g4 g5 ⊢
   have hjl : j < xs.length := by rw [hj.out]; omega
   obtain ⟨fn, tmps, assign, body, hy, hR⟩ := HY.out _ (j, x) wr hJ.out (by rw [List.length_take, bk_length]; omega)
   dsimp only at hy
   clear hi
   gi_wp2
   refine hR.mono ?_
   rintro e W3 (⟨rfl, hJ3, hk3⟩ | ⟨rfl, hJx3⟩)
   ·
    gi_wp2
    go_roundw
    case rel => exact ⟨k + 1, by omega, by rw [hj.out]; (try congr 1); (try omega), ⟨by rw [HT.out, ← hj.out]; exact hJ3⟩, ⟨hK.out.trans hk3⟩⟩
    case measure => simp [intOf] <;> omega
   ·
    gi_wp2
    refine bodyPost_ret (results_none rfl _ _ _) rfl ?_
    exact ⟨⟨_, rfl⟩, .inr ⟨_, by rw [hj.out, ← HT.out]; exact List.take_prefix _ _, hJx3⟩⟩
  ·
   obtain rfl : k = xs.length := by omega
   have hi : ((xs.length : Int) - 1 - xs.length) = -1 := by omega
   rw [hi]
   clear hi
   gi_wp2
   go_end0
   exact ⟨⟨_, rfl⟩, .inl ⟨_, rfl, by have := hJ.out; rwa [List.take_of_length_le (by rw [bk_length]; omega)] at this⟩⟩
set_option maxHeartbeats 400000 in
theorem BackwardNode.calls (A : Option Addr) (n c0 : Nat) (w : World) :
  Calls Tryz.prog 100 #[.slice A n c0] w fun e w' => e = .returned (.func (.func 116) #[] #[.pointer (some ⟨w.heap.size, 0, none⟩)]) ∧ w' = w.alloc (.cells #[.slice A n c0] 22) := by
 go_enter Tryz.func100, Tryz.ntmps100
 go_wp2
 go_ret
 exact ⟨rfl, rfl⟩
/-- Where the nodes are, after the first nodes from behind. -/
def atOf (pre : List (Nat × Node)) : List (Dot × Nat) := pre.foldl (fun m p => MapLaw.mset m p.2.f0 p.1) []
theorem atOf_snoc (pre : List (Nat × Node)) (x : Nat × Node) : atOf (pre ++ [x]) = MapLaw.mset (atOf pre) x.2.f0 x.1 := by simp [atOf]
abbrev Fault := S128
/-- The faults of the first k nodes. -/
def faultsUpto (l : List Node) (m : List (Dot × Nat)) (k : Nat) : List Fault := (List.range k).flatMap fun i => if flawOf l m i = 0 then [] else [⟨(i : Int), flawOf l m i⟩]
theorem faultsUpto_succ (l : List Node) (m : List (Dot × Nat)) (k : Nat) : faultsUpto l m (k + 1) = faultsUpto l m k ++ (if flawOf l m k = 0 then [] else [⟨(k : Int), flawOf l m k⟩]) := by
 simp [faultsUpto, List.range_succ]
theorem faultsUpto_length (l : List Node) (m : List (Dot × Nat)) (k : Nat) : (faultsUpto l m k).length ≤ k := by
 induction k with
 | zero => simp [faultsUpto]
 | succ k ih => rw [faultsUpto_succ, List.length_append]; split <;> simp <;> omega
def faultsOf (l : List Node) : List Fault := faultsUpto l (atOf (bk l)) l.length
theorem atOf_lt (n : Nat) : ∀ (pre : List (Nat × Node)) (m : List (Dot × Nat)), (∀ x ∈ pre, x.1 < n) → (∀ d k, MapLaw.mget m d = some k → k < n) → ∀ d k, MapLaw.mget (pre.foldl (fun m p => MapLaw.mset m p.2.f0 p.1) m) d = some k → k < n
 | [], m, _, hm => hm
 | x :: pre, m, hx, hm => by
  refine atOf_lt n pre _ (fun y hy => hx y (List.mem_cons_of_mem _ hy)) ?_
  intro d k h
  rw [MapLaw.mget_mset] at h
  split at h
  ·
   cases h; exact hx x List.mem_cons_self
  ·
   exact hm d k h
theorem bk_lt {α : Type} (l : List α) : ∀ x ∈ bk l, x.1 < l.length := by
 intro x hx
 unfold bk at hx
 rw [List.mem_reverse, List.mem_map] at hx
 obtain ⟨p, hp, rfl⟩ := hx
 exact List.snd_lt_of_mem_zipIdx hp
theorem atOf_bk_lt (l : List Node) : ∀ d k, MapLaw.mget (atOf (bk l)) d = some k → k < l.length :=
 atOf_lt l.length (bk l) [] (bk_lt l) (fun d k h => by simp [MapLaw.mget_nil] at h)
set_option maxHeartbeats 1000000 in
set_option maxRecDepth 100000 in
theorem Faults.walk (A0 : Option Addr) (c0 : Nat) (l0 : List Node) (w : World) (hr0 : Kd.C k53 w A0 l0.length l0) (hc0 : l0.length ≤ c0) (hl : l0.length ≤ 1000000) :
  Calls Tryz.prog 80 #[.slice A0 l0.length c0] w fun e w' => ∃ v0_ : Value, e = .returned (v0_) ∧ Kd.R k128 128 w' w.heap.size (fun _ => True) v0_ (faultsOf l0) ∧ Below w.heap.size w w' := by
 have HR := Aside0.mk hr0
 have HC := Aside0.mk hc0
 have HA : Aside0 (∀ ad, A0 = some ad → 0 < l0.length → ad.block < w.heap.size) := ⟨fun ad e hp => by
  obtain ⟨x, hx⟩ : ∃ x, l0[0]? = some x := ⟨_, List.getElem?_eq_getElem hp⟩
  obtain ⟨ad', e', g0, _⟩ := node_at hr0 (Below.refl _ _) 0 x hx
  rw [e] at e'; cases e'
  have := World.block_lt_of_cell? w _ g0
  have hbl : (ad.add (0 * 6)).block = ad.block := by unfold Addr.add; split <;> rfl
  rw [hbl] at this; exact this⟩
 clear hr0 hc0
 have hmm := @run_makeMap Tryz.prog
 refine calls_of_wp_m Tryz.func80 rfl ?_
 simp only [Tryz.ntmps80, List.size_toArray, List.length_cons, List.length_nil, Nat.reduceAdd, Nat.reduceSub, Array.replicate_succ, Array.replicate_zero, List.push_toArray, List.append_toArray, List.nil_append, List.cons_append]
 go_wp2_with fail
 refine (BackwardNode.calls _ _ _ _).mono ?_
 rintro e w1 ⟨rfl, rfl⟩
 go_wp2_with fail
 have hM : MapLaw.MapIs (κ := Dot) (β := Nat) vDot vNat (((w.alloc (.map #[] 0)).alloc (.cells #[.map (some w.heap.size)] 121)).alloc (.cells #[.slice A0 l0.length c0] 22)) w.heap.size [] :=
  (MapLaw.MapIs.new w).below ((((Below.refl _ _).alloc (Nat.le_refl _) _).alloc (by simp) _))
 have hB : (((w.alloc (.map #[] 0)).alloc (.cells #[.map (some w.heap.size)] 121)).alloc (.cells #[.slice A0 l0.length c0] 22)).heap[w.heap.size + 1]? = some (.cells #[.map (some w.heap.size)] 121 (0, 0)) := by
  have := blk_new (w.alloc (.map #[] 0)) (.cells #[.map (some w.heap.size)] 121)
  rw [World.size_alloc] at this
  exact blk_alloc this _
 have hS : (((w.alloc (.map #[] 0)).alloc (.cells #[.map (some w.heap.size)] 121)).alloc (.cells #[.slice A0 l0.length c0] 22)).heap[w.heap.size + 2]? = some (.cells #[.slice A0 l0.length c0] 22 (0, 0)) := by
  have := blk_new ((w.alloc (.map #[] 0)).alloc (.cells #[.map (some w.heap.size)] 121)) (.cells #[.slice A0 l0.length c0] 22)
  simpa [World.size_alloc] using this
 have hW : Below w.heap.size w (((w.alloc (.map #[] 0)).alloc (.cells #[.map (some w.heap.size)] 121)).alloc (.cells #[.slice A0 l0.length c0] 22)) :=
  below_alloc (below_alloc (below_alloc (Below.refl _ _) _) _) _
 have hsz : (((w.alloc (.map #[] 0)).alloc (.cells #[.map (some w.heap.size)] 121)).alloc (.cells #[.slice A0 l0.length c0] 22)).heap.size = w.heap.size + 3 := by simp
 generalize (((w.alloc (.map #[] 0)).alloc (.cells #[.map (some w.heap.size)] 121)).alloc (.cells #[.slice A0 l0.length c0] 22)) = W1 at *
 have HR1 := Kd.C_below HR.out hW
 refine wpIn_wide.1 (wpIn_rangeFunc_ownH (n := 9) (F := Fence.wide) rfl (by decide) (gf := 116) (lb := #[.pointer (some ⟨w.heap.size + 1 + 1, 0, none⟩)]) rfl trivial Tryz.call116
  (encs := fun x : Nat × Node => #[.int .i64 (x.1 : Int), vNode x.2]) (Kp := KpE W1.heap.size (fun i => i = w.heap.size)) (S := fun ys => ys = bk l0) (Sp := fun pre => pre <+: bk l0) (N := l0.length) (w0 := W1)
  (fun lp J Jx W hWW _ _ hY h0 => bkNode_in 8 lp (w.heap.size + 1 + 1) W1.heap.size (fun i => i = w.heap.size) A0 c0 l0 (by decide) hl J Jx hY W ((hWW.cell (p := ⟨w.heap.size + 1 + 1, 0, none⟩) (by show w.heap.size + 1 + 1 < _; omega)).trans ((blk_cell hS 0).trans rfl)) (by omega) (by show ¬ (w.heap.size + 1 + 1 = w.heap.size); omega) (fun ad e hp => by have := HA.out ad e hp; exact ⟨by omega, by show ¬ (ad.block = w.heap.size); omega⟩) (Kd.C_below HR1 hWW) h0)
  (fun h k => h.trans k) (fun W l o o' hl _ _ _ => KpE.put (Nat.le_refl _) W l o o' hl) (Below.refl _ _) (fun _ => rfl)
  (fun pre W => (MapLaw.MapIs vDot vNat W w.heap.size (atOf pre) ∧ W.heap[w.heap.size + 1]? = some (.cells #[.map (some w.heap.size)] 121 (0, 0))) ∧ (Below w.heap.size w W ∧ W1.heap.size ≤ W.heap.size))
  (fun _ _ _ => False)
  (OwnFrom.and (OwnFrom.and (MapLaw.MapIs.ownFrom (by omega)) blk_own) (OwnFrom.and (ownFrom_below (Nat.le_refl _) (by omega)) (fun _ _ _ _ hs hg _ => Nat.le_trans hs hg.size)))
  (fun _ _ _ _ _ hs _ _ => hs)
  ⟨⟨hM, hB⟩, hW, Nat.le_refl _⟩
  (fun x a' W => ∃ Bx, W1.heap.size ≤ Bx ∧ W.heap[Bx]? = some (.cells #[.int .i64 x.2.f0.f0, .int .i64 x.2.f0.f1, .int .i64 x.2.f1.f0, .int .i64 x.2.f1.f1, .int .i64 x.2.f2, .int .i32 x.2.f3] 53 (0, 0)) ∧ a' = { tmps := #[.slice A0 l0.length c0, undef, .slice none 0 0, .pointer (some ⟨w.heap.size + 1, 0, none⟩), .int .i64 (x.1 : Int), .pointer (some ⟨Bx, 0, none⟩), undef, undef, undef, .map (some w.heap.size), .slice A0 l0.length c0, .func (.func 116) #[] #[.pointer (some ⟨w.heap.size + 1 + 1, 0, none⟩)], .int .i64 (x.1 : Int), vNode x.2, undef, undef, undef, undef, undef, undef, undef, undef, undef, undef, undef, undef, undef, undef, undef, undef, undef, undef, undef, undef, undef, undef, undef], defers := [] })
  (fun x a' _ W W' row hs hg hr => by
   obtain ⟨Bx, h1, h2, h3⟩ := hs
   exact ⟨Bx, h1, (hg.block Bx (blk_lt h2) (fun e => by obtain ⟨_, o, ho, hc⟩ := hr Bx e.symm; rw [h2] at ho; cases ho; cases hc)).trans h2, h3⟩)
  ?assign ?body ?done ?stop)
 case assign =>
  rintro l pre x W K ⟨⟨hi1, hi2⟩, hi3, hi4⟩ hK
  gi_wp2
  exact hK _ _ ((KeepsOthers.alloc _ _).from _) (KpE.below ((Below.refl _ W).alloc hi4 _)) ⟨⟨hi1.below (below_alloc (Below.refl _ _) _), blk_alloc hi2 _⟩, hi3.alloc hi3.size _, by simp; omega⟩ ⟨W.heap.size, hi4, blk_new _ _, rfl⟩
 case body =>
  rintro l pre x a' W hl2 ⟨rr, hrr⟩ ⟨⟨hi1, hi2⟩, hi3, hi4⟩ ⟨Bx, hx1, hx2, rfl⟩ hlt
  have hc0 : W.cell? ⟨w.heap.size + 1, 0, none⟩ = _ := (blk_cell hi2 0).trans rfl
  have hc1 : W.cell? ⟨Bx, 0, none⟩ = _ := (blk_cell hx2 0).trans rfl
  have hc2 : W.cell? ⟨Bx, 1, none⟩ = _ := (blk_cell hx2 1).trans rfl
  gi_wp2_with (gi_at_mapUpdate; refine MapLaw.wpListIn_update rfl _ _ _ _ rfl dotKey Tryz.underlying121 x.2.f0 x.1 rfl rfl rfl hi1 ?_; intro w2 hm2 hg2)
  exact ⟨KeepsFrom.of_grownBy hg2 (fun j e => by cases e; omega), KpE.grown hg2 (fun r e => by cases e; rfl) hi4, ⟨by rw [atOf_snoc]; exact hm2, (hg2.block _ (blk_lt hi2) (by simp)).trans hi2⟩, hi3.grown hg2 hi3.size (fun k e => by cases e; exact Nat.le_refl _), Nat.le_trans hi4 hg2.size⟩
 case done =>
  rintro D ys W hD rfl ⟨⟨hi1, hi2⟩, hi3, hi4⟩ hK
  have HI1 := Aside0.mk hi1
  have HI2 := Aside0.mk hi2
  have HI3 := Aside0.mk hi3
  have HK := Aside0.mk hK
  have HS := Aside0.mk hsz
  clear hi1 hi2 hi3 hi4 hK hM hB hS hsz HR1
  have HMB := Aside0.mk (atOf_bk_lt l0)
  obtain ⟨m, Hm⟩ : ∃ m, Aside0 (atOf (bk l0) = m) := ⟨_, ⟨rfl⟩⟩
  rw [Hm.out] at HI1 HMB
  go_wp2
  go_loopw [6, 20] (fun v i wr => ∃ k : Nat, k ≤ l0.length ∧ i = .int .i64 k ∧ Aside0 (Kd.R k128 128 wr w.heap.size (fun _ => True) v (faultsUpto l0 m k)) ∧ Aside0 (MapLaw.MapIs vDot vNat wr w.heap.size m) ∧ Aside0 (wr.heap[w.heap.size + 1]? = some (.cells #[.map (some w.heap.size)] 121 (0, 0))) ∧ Aside0 (wr.heap[D]? = some (.deferred (some []))) ∧ Aside0 (Below w.heap.size w wr)) (fun _ i _ => l0.length - (intOf i).toNat)
  case atStart => exact ⟨0, Nat.zero_le _, rfl, ⟨Kd.R_nil _ _ _ _ _⟩, HI1, HI2, HK, HI3⟩
  case round =>
   obtain ⟨k, hk, rfl, HO, HI1, HI2, HK, HI3⟩ := hrel
   have hc0 : wr.cell? ⟨w.heap.size + 1, 0, none⟩ = _ := (blk_cell HI2.out 0).trans rfl
   by_cases hlt : k < l0.length
   ·
    obtain ⟨f, Hf⟩ : ∃ f, Aside0 (flawOf l0 m k = f) := ⟨_, ⟨rfl⟩⟩
    go_wp2_with fail
    refine (flaw.calls A0 c0 l0 w.heap.size m k wr (Kd.C_below HR.out HI3.out) HC.out hl HI1.out HMB.out hlt).mono ?_
    rintro e w2 ⟨rfl, hb2⟩
    rw [Hf.out]
    have HO2 := Aside0.mk (Kd.R_below HO.out hb2)
    have HI12 := Aside0.mk (HI1.out.below hb2)
    have HI22 := Aside0.mk (blk_keep HI2.out hb2)
    have HK2 := Aside0.mk (blk_keep HK.out hb2)
    have HI32 := Aside0.mk (below_more HI3.out hb2)
    clear HO HI1 HI2 HK HI3 hb2 hc0
    by_cases hf : f = 0
    ·
     have hfb : (f != 0) = false := bne_eq_false_iff_eq.mpr hf
     have HF0 : Aside0 (flawOf l0 m k = 0) := ⟨Hf.out.trans hf⟩
     clear hf
     go_wp2
     go_roundw
     case rel => exact ⟨k + 1, by omega, by go_num, ⟨by rw [faultsUpto_succ, if_pos HF0.out, List.append_nil]; exact HO2.out⟩, HI12, HI22, HK2, HI32⟩
     case measure => simp [intOf]; omega
    ·
     have hfb : (f != 0) = true := bne_iff_ne.mpr hf
     have HF0 : Aside0 (¬ flawOf l0 m k = 0) := ⟨fun h => hf (Hf.out.symm.trans h)⟩
     clear hf
     have hlen := faultsUpto_length l0 m k
     go_wp2_with (at_builtin; go_loud (refine Kd.R_append k128 (w0 := w) w.heap.size rfl (.tmp 29) (.tmp 33) 103 128 (.agg #[(.int .i64 0), (.int .i64 0)]) 16 rfl Tryz.underlying103 info128 rfl (by decide) (by omega) u6 (faultsUpto l0 m k) (⟨(k : Int), f⟩ : Fault) [.int .i64 (k : Int), .int .i64 f] (fun _ => True) (fun _ => False) rfl rfl ?aP (fun _ hk => hk.elim) ?aF ?aO ?aB ?aS ?aL ?_); (case aP => exact k128_mkM _ _ _ (⟨(k : Int), f⟩ : Fault)); (case aF => exact (fun _ _ => trivial)); (case aO => exact HO2.out); (case aB => exact HI32.out); (case aS => exact HI32.out.size); (case aL => omega); intro v2 w3 ho hb hg hat)
     have hn1 := R_apart_obj HO2.out HI22.out (fun cells h => by cases h)
     have hn2 := R_apart_obj HO2.out HK2.out (fun cells h => by cases h)
     have hn3 : some w.heap.size ≠ u6.ownBlock := by
      obtain ⟨es, cl, h1, _⟩ := HI12.out
      exact R_apart_obj HO2.out h1 (fun cells h => by cases h)
     go_roundw
     case rel => exact ⟨k + 1, by omega, by go_num, ⟨by rw [faultsUpto_succ, if_neg HF0.out, Hf.out]; exact ho⟩, ⟨HI12.out.same (hg.block _ HI12.out.lt hn3)⟩, ⟨(hg.block _ (blk_lt HI22.out) hn1).trans HI22.out⟩, ⟨(hg.block _ (blk_lt HK2.out) hn2).trans HK2.out⟩, ⟨hb⟩⟩
     case measure => simp [intOf]; omega
   ·
    obtain rfl : k = l0.length := by omega
    go_wp2
    refine ⟨by simp, .inl ⟨_, _, rfl, run_takeDeferred HK.out, ?_⟩⟩
    refine ⟨_, results_tmp rfl _ _ _, _, rfl, ?_, below_putObj HI3.out (by have := HS.out; omega) _⟩
    unfold faultsOf
    rw [Hm.out]
    exact R_putObj HO.out HK.out rfl _
 case stop =>
  rintro D c pre W _ _ h _
  exact h.elim
def shape_Faults.f (l0 : List Node) : Option (List Fault) := if l0.length ≤ 1000000 then some (faultsOf l0) else none
theorem shape_Faults.calls (A0 : Option Addr) (c0 : Nat) (l0 : List Node) (r : List Fault) (w : World) (hr0 : Kd.C k53 w A0 l0.length l0) (hc0 : l0.length ≤ c0) (h : shape_Faults.f l0 = some r) :
  Calls Tryz.prog 80 #[.slice A0 l0.length c0] w fun e w' => ∃ v0_ : Value, e = .returned (v0_) ∧ Kd.R k128 128 w' w.heap.size (fun _ => True) v0_ r ∧ Below w.heap.size w w' := by
 unfold shape_Faults.f at h
 by_cases hl : l0.length ≤ 1000000
 ·
  rw [if_pos hl] at h
  obtain rfl := Option.some.inj h
  exact Faults.walk A0 c0 l0 w hr0 hc0 hl
 ·
  rw [if_neg hl] at h; cases h
end
def shape_Well.f (l0 : List (S53)) : Option (Bool) := (shape_Faults.f l0).bind fun t117 => (some ((t117.length : Int) == 0))
set_option maxHeartbeats 8000000 in
set_option maxRecDepth 100000 in
theorem shape_Well.calls (A0 : Option Addr) (c0 : Nat) (l0 : List (S53)) (r : Bool) (w : World) (hr0 : Kd.C k53 w A0 l0.length l0) (hc0 : l0.length ≤ c0) (h : shape_Well.f l0 = some r) :
  Calls Tryz.prog 51 #[.slice A0 l0.length c0] w fun e w' => e = .returned (.bool r) ∧ Below w.heap.size w w' := by
 have HR0 := Aside0.mk hr0
 have HC0 := Aside0.mk hc0
 clear hr0 hc0
 have HB := Aside0.mk (Below.refl w.heap.size w)
 have H : ((shape_Faults.f l0).bind fun t117 => (some ((t117.length : Int) == 0))) = some r := h
 clear h
 replace H := Option.bind_eq_some_iff.mp H
 obtain ⟨t117, A20, H⟩ := H
 replace H : (some ((t117.length : Int) == 0)) = some r := H
 have A2 := Aside0.mk A20
 clear A20
 obtain rfl := Option.some.inj H
 go_enter Tryz.func51, Tryz.ntmps51
 go_wp2_with (first | ((with_reducible refine gate_callee (f := 80) rfl ?_); refine goesL_ (some 4) rfl rfl Tryz.func80 (by kernel_rfl) rfl #[.slice A0 l0.length c0] rfl (by (try simp only [List.map_toArray, List.map_cons, List.map_nil]); first | done | rfl | (simp only [List.length_drop, List.length_take]; rfl)) ?_; (with_reducible refine (shape_Faults.calls _ _ l0 t117 _ ?side1 ?side2 A2.out).mono ?_); (case side1 => repeat (first | exact HR0.out | (with_reducible refine Kd.C_alloc ?_ _) | (with_reducible refine Kd.C_drewN ?_ _) | (with_reducible refine Kd.C_drew ?_))); (case side2 => exact HC0.out); rintro e w3 ⟨v118, rfl, ho0, hb⟩; refine ⟨_, rfl, ?_⟩; have n0_ := Aside0.mk (Kd.R_lower ho0 (below_size (by repeat (first | (with_reducible first | exact HB.out | apply below_alloc | apply pw_below_drewN | apply below_drew1) | exact HB.out)))); have n1_ := Aside0.mk (below_step (by repeat (first | (with_reducible first | exact HB.out | apply below_alloc | apply pw_below_drewN | apply below_drew1) | exact HB.out)) hb); clear HB; have HO119 := n0_; have HB := n1_; clear n0_ n1_; (try clear hb); (try clear hb2); (try clear hk); (try clear hi); (try clear ho0); obtain ⟨Ao4, co4, eo4⟩ := Kd.R_slice HO119.out; subst eo4))
 go_ret
 exact ⟨by first | rfl | (simp [errW_none, errW_some] <;> rfl) | (simp [*, errW_none, errW_some] <;> rfl), by repeat (first | (with_reducible first | exact HB.out | apply below_alloc | apply pw_below_drewN | apply below_drew1) | exact HB.out)⟩
end Go.Proofs.YtmbndijbpgobeaaGreat.PWalk
end
section
namespace Go.Proofs.YtmbndijbpgobeaaGreat.PWalk
open Go.RowKit Go.Proofs.YtmbndijbpgobeaaGreatW.PrintWords Go.Proofs.YtmbndijbpgobeaaGreatW.PrintLast Go.Proofs.YtmbndijbpgobeaaGreatW.PrintMore
set_option linter.unusedVariables false
set_option linter.unusedSimpArgs false
open Go.Shelf
attribute [local go_sem] Oper.semAt_some
def nodeCells (x : Node) : List Value := [.int .i64 x.f0.f0, .int .i64 x.f0.f1, .int .i64 x.f1.f0, .int .i64 x.f1.f1, .int .i64 x.f2, .int .i32 x.f3]
def cellsOf (l : List Node) : List Value := l.flatMap nodeCells
theorem cellsOf_length (l : List Node) : (cellsOf l).length = l.length * 6 := by
 induction l with
 | nil => rfl
 | cons x l ih => rw [cellsOf, List.flatMap_cons, List.length_append, ← cellsOf, ih]; simp [nodeCells]; omega
theorem cellsOf_append (l m : List Node) : cellsOf (l ++ m) = cellsOf l ++ cellsOf m := by simp [cellsOf]
theorem cellsOf_drop_take (l : List Node) (j : Nat) (x : Node) (h : l[j]? = some x) : ((cellsOf l).drop (j * 6)).take 6 = nodeCells x := by
 induction l generalizing j with
 | nil => simp at h
 | cons y l ih =>
  cases j with
  | zero => simp at h; subst h; simp [cellsOf, nodeCells]
  | succ j =>
   simp at h
   rw [show (j + 1) * 6 = 6 + j * 6 from by omega, cellsOf, List.flatMap_cons, ← cellsOf, ← List.drop_drop, List.drop_left' (by simp [nodeCells])]
   exact ih j h
theorem reps_cells {R : Node → List Value → Prop} (l : List Node) (hR : ∀ x, R x (nodeCells x)) : Reps R 6 l (cellsOf l) :=
 ⟨cellsOf_length l, fun j p hj => by rw [cellsOf_drop_take l j p hj]; exact hR p⟩
theorem cells_of_reps {R : Node → List Value → Prop} (l : List Node) (cs : List Value) (h : Reps R 6 l cs) (hR : ∀ x c, R x c → c = nodeCells x) : cs = cellsOf l := by
 induction l generalizing cs with
 | nil => have := h.1; simp at this; subst this; rfl
 | cons x l ih =>
  obtain ⟨h1, h2⟩ := h
  have h0 := hR _ _ (h2 0 x rfl)
  simp only [Nat.zero_mul, List.drop_zero] at h0
  have ht : Reps R 6 l (cs.drop 6) := ⟨by rw [List.length_drop, h1]; simp; omega, fun j p hj => by
   have := h2 (j + 1) p (by simpa using hj)
   rw [List.drop_drop, show 6 + j * 6 = (j + 1) * 6 from by omega]; exact this⟩
  rw [cellsOf, List.flatMap_cons, ← cellsOf, ← ih _ ht, ← h0, List.take_append_drop]
theorem R_of_cells {w : World} {base : Nat} {ok : Nat → Prop} {v : Value} {l : List Node} (h : w.ownsRow base 53 6 v l.length (cellsOf l)) (hok : ∀ k, v.ownBlock = some k → ok k) : Kd.R k53 53 w base ok v l :=
 ⟨hok, cellsOf l, h, reps_cells l fun x => k53_mkM _ _ _ x⟩
theorem cells_of_R {w : World} {base : Nat} {ok : Nat → Prop} {v : Value} {l : List Node} (h : Kd.R k53 53 w base ok v l) : w.ownsRow base 53 6 v l.length (cellsOf l) := by
 obtain ⟨_, inner, ho, hr⟩ := h
 rw [← cells_of_reps l inner hr fun x c hx => k53_openM hx]
 exact ho
theorem cellsOf_get (l : List Node) (j : Nat) (u : Value) (h : (cellsOf l)[j]? = some u) : ∃ x, l[j / 6]? = some x ∧ (nodeCells x)[j % 6]? = some u := by
 have hj : j < l.length * 6 := by rw [← cellsOf_length]; exact (List.getElem?_eq_some_iff.1 h).1
 have hd : j / 6 < l.length := by omega
 refine ⟨l[j / 6], List.getElem?_eq_getElem hd, ?_⟩
 rw [← cellsOf_drop_take l (j / 6) _ (List.getElem?_eq_getElem hd), List.getElem?_take, if_pos (by omega), List.getElem?_drop, show j / 6 * 6 + j % 6 = j from by omega]
 exact h
theorem C_cells {w : World} {A : Option Addr} {n : Nat} {xs : List Node} (h : Kd.C k53 w A n xs) (hp : 0 < n) : ∃ ad, A = some ad ∧ ∀ j u, (cellsOf xs)[j]? = some u → w.cell? (ad.add j) = some u := by
 obtain ⟨hl, _, hc⟩ := h
 obtain ⟨ad, e, hc⟩ := hc hp
 refine ⟨ad, e, fun j u hu => ?_⟩
 obtain ⟨x, hx, hu⟩ := cellsOf_get xs j u hu
 obtain ⟨c, _, hK, hcell⟩ := hc _ _ hx
 have hcx : c = nodeCells x := k53_open hK
 subst hcx
 have h2 := hcell _ _ hu
 have e2 : j / 6 * (k53).sz + j % 6 = j := (show j / 6 * 6 + j % 6 = j by omega)
 rw [e2] at h2
 exact h2
theorem one_cells (l : List Node) : ∀ u ∈ cellsOf l, u.oneCell' = true := by
 intro u hu
 unfold cellsOf at hu
 rw [List.mem_flatMap] at hu
 obtain ⟨x, _, hx⟩ := hu
 simp [nodeCells] at hx
 rcases hx with rfl | rfl | rfl | rfl | rfl | rfl <;> rfl
theorem infoN : (Tryz.prog.info? 53).map (fun i => (i.zero, i.size, i.bytes)) = some (some (.agg #[(.int .i64 0), (.int .i64 0), (.int .i64 0), (.int .i64 0), (.int .i64 0), (.int .i32 0)]), 6, 48) := by kernel_rfl
section
variable {P : Program} {ops : Array Oper} {rest : List Oper} {o : Oper} {a : Act} {Q : Exit → Act → World → Prop}
end
theorem setRow_at {w : World} {g : Nat} {cur : Array Value} {t : TypeId} {fr : Nat × Nat} (h : w.heap[g]? = some (.cells cur t fr)) (cs : Array Value) : (w.setRow g cs).heap[g]? = some (.cells cs t fr) := by
 unfold World.setRow
 simp only [Array.getElem?_modify, if_true, h]
 rfl
theorem setRow_grown (w : World) (g : Nat) (cs : Array Value) : w.grownBy (w.setRow g cs) (some g) :=
 ⟨rfl, rfl, rfl, by simp, fun k hk hne => setRow_other w g k cs (fun e => hne (by rw [e]))⟩
theorem run_clear_row {P : Program} {t e : TypeId} {z : Value} (ht : P.underlying t = some (.slice e)) (hz : ∀ w, (zeroValue e).run P w = .ok z w) (h1 : ∀ u ∈ z.cells.toList, u.oneCell' = true) (ty : TypeId) (g off n c : Nat) (cur : Array Value) (te : TypeId) (w : World)
  (hg : w.heap[g]? = some (.cells cur te (0, 0))) (hn : 0 < n) (hfit : off + n * z.cells.size ≤ cur.size) :
  (Builtin.clear_ #[t] ty #[.slice (some ⟨g, off, none⟩) n c]).run P w = .ok (.tuple #[]) (w.setRow g (cur.toList.take off ++ (Builtin.zeroCells z.cells n).toList ++ cur.toList.drop (off + n * z.cells.size)).toArray) := by
 obtain ⟨m, rfl⟩ : ∃ m, n = m + 1 := ⟨n - 1, by omega⟩
 have hs := run_storeCells_at (P := P) g off te (Builtin.zeroCells z.cells (m + 1)).toList 0 cur w hg (by simp [size_zeroCells]; omega) (by
  intro v hv
  simp only [Builtin.zeroCells, Array.toList_map, List.mem_map] at hv
  obtain ⟨i, hi, rfl⟩ := hv
  rcases Nat.eq_zero_or_pos z.cells.size with h0 | h0
  ·
   simp [h0] at hi
  ·
   have hlt := Nat.mod_lt i h0
   rw [getElem!_pos z.cells (i % z.cells.size) hlt]
   exact h1 _ (by simp))
 have hlen : (Builtin.zeroCells z.cells (m + 1)).toList.length = (m + 1) * z.cells.size := by simp [size_zeroCells]
 rw [hlen] at hs
 simp only [Nat.add_zero] at hs
 unfold Builtin.clear_
 simp [run_underlying ht, hz, hs, Result.andThen]
set_option maxHeartbeats 400000 in
set_option maxRecDepth 100000 in
theorem CloneNode.calls (A0 : Option Addr) (c0 : Nat) (l0 : List Node) (w : World) (hr0 : Kd.C k53 w A0 l0.length l0) (hl : l0.length ≤ 1000000) :
  Calls Tryz.prog 70 #[.slice A0 l0.length c0] w fun e w' => ∃ v0_ : Value, e = .returned v0_ ∧ Kd.R k53 53 w' w.heap.size (fun _ => True) v0_ l0 ∧ Below w.heap.size w w' := by
 cases A0 with
 | none =>
  have hz : l0 = [] := by
   cases l0 with
   | nil => rfl
   | cons x l => obtain ⟨ad, e, _⟩ := C_cells hr0 (by simp); cases e
  subst hz
  have hq := fun (W : World) => Lib.run_eql_slice_nil_nil (P := Tryz.prog) W 0 c0 Tryz.underlying22
  clear hr0
  go_enter Tryz.func70, Tryz.ntmps70
  go_wp2
  go_ret
  exact ⟨_, rfl, Kd.R_nil _ _ _ _ _, Below.refl _ _⟩
 | some ad =>
  have hq := fun (W : World) => Lib.run_eql_slice_some_nil (P := Tryz.prog) W ad l0.length c0 Tryz.underlying22
  have HR := Aside0.mk hr0
  obtain ⟨i0, hi, hz0, hz1, hz2⟩ := info_parts infoN
  have hz := Tryz.zeroValue53
  have hlen := cellsOf_length l0
  have hcells : Aside0 (∀ j u, (cellsOf l0)[j]? = some u → w.cell? (ad.add j) = some u) := ⟨by
   intro j u hu
   by_cases hp : 0 < l0.length
   ·
    obtain ⟨ad', e, h⟩ := C_cells hr0 hp
    cases e; exact h j u hu
   ·
    have : l0 = [] := by cases l0 <;> simp_all
    subst this; simp [cellsOf] at hu⟩
  clear hr0
  go_enter Tryz.func70, Tryz.ntmps70
  go_wp2_with (at_builtin; go_loud (refine wpList_append_own _ rfl (.tmp 5) (.tmp 6) 22 rfl w.heap.size 53 i0 _ 6 48 Tryz.underlying22 hi hz0 hz1 hz2 rfl (by decide) _ 0 [] rfl (World.ownsRow_lit w #[] 0 (Nat.le_refl _) (by decide) rfl) ad l0.length c0 (cellsOf l0) rfl hlen ?c1 (one_cells l0) ?c2 ?c3 ?c4 ?_); (case c1 => exact fun j u hu => pw_cell_below (below_alloc (Below.refl _ _) _) (hcells.out j u hu)); (case c2 => unfold maxLen; omega); (case c3 => omega); (case c4 => simp); intro v' w' ho hg hn)
  go_ret
  exact ⟨_, rfl, R_of_cells (by simpa using ho) (fun _ _ => trivial), (below_alloc (Below.refl _ _) _).grown hg (by simp) (fun k e => by cases (show some w.heap.size = some k from e); exact Nat.le_refl _)⟩
end Go.Proofs.YtmbndijbpgobeaaGreat.PWalk
end
section
namespace Go.Proofs.YtmbndijbpgobeaaGreat.PWalk
open Go.RowKit Go.Proofs.YtmbndijbpgobeaaGreatW.PrintWords Go.Proofs.YtmbndijbpgobeaaGreatW.PrintLast Go.Proofs.YtmbndijbpgobeaaGreatW.PrintMore
set_option linter.unusedVariables false
set_option linter.unusedSimpArgs false
open Go.Shelf
attribute [local go_sem] Oper.semAt_some
theorem run_copy_rowK {P : Program} (w : World) (dT sT ty elem : TypeId) (k g o dLen dCap : Nat) (a : Addr) (sLen sCap : Nat) (cur : Array Value) (t : TypeId) (cs : List Value)
  (hu : P.underlying dT = some (.slice elem)) (hs : (P.info? elem).map (·.size) = some k)
  (hg : w.heap[g]? = some (.cells cur t (0, 0))) (hn : cs.length = Nat.min sLen dLen * k)
  (hsrc : ∀ j v, cs[j]? = some v → w.cell? (a.add j) = some v) (hfit : o + cs.length ≤ cur.size) (h1 : ∀ v ∈ cs, v.oneCell' = true) :
  (Builtin.copy_ #[dT, sT] ty #[.slice (some ⟨g, o, none⟩) dLen dCap, .slice (some a) sLen sCap]).run P w =
   .ok (goInt (Nat.min sLen dLen)) (w.setRow g (cur.toList.take o ++ cs ++ cur.toList.drop (o + cs.length)).toArray) := by
 have hl := run_loadCells_list (P := P) w a cs hsrc
 have hst := run_storeCells_at P g o t cs 0 cur w hg (by simpa using hfit) h1
 cases hq : P.info? elem with
 | none => simp [hq] at hs
 | some i =>
  have hi : i.size = k := by simpa [hq] using hs
  simp [Builtin.copy_, run_underlying hu, Builtin.lenOf, Builtin.firstCells, sizeOf, typeInfo, hq, hi, ← hn, hl, hst]
abbrev entCells (k : Dot) (u : Value) : List Value := [.int .i64 k.f0, .int .i64 k.f1, u]
theorem infoE : (Tryz.prog.info? 176).map (fun i => (i.zero, i.size, i.bytes)) = some (some (.agg #[(.int .i64 0), (.int .i64 0), (.slice none 0 0)]), 3, 40) := by kernel_rfl
theorem entCells_at {w : World} {g : Nat} {k : Dot} {u : Value} (h : w.heap[g]? = some (.cells #[.int .i64 k.f0, .int .i64 k.f1, u] 176 (0, 0))) (j : Nat) (v : Value) (hj : (entCells k u)[j]? = some v) : w.cell? ((⟨g, 0, none⟩ : Addr).add j) = some v := by
 rw [show (⟨g, 0, none⟩ : Addr).add j = ⟨g, j, none⟩ from by unfold Addr.add; split <;> simp_all]
 rw [blk_cell h, ← Array.getElem?_toList]
 exact hj
theorem entCells_one {k : Dot} {u : Value} (h : u.oneCell' = true) : ∀ v ∈ entCells k u, v.oneCell' = true := by
 intro v hv
 simp at hv
 rcases hv with rfl | rfl | rfl
 ·
  rfl
 ·
  rfl
 ·
  exact h
set_option maxHeartbeats 1000000 in
set_option maxRecDepth 100000 in
theorem insert_end (base : Nat) (A : Option Addr) (n cap : Nat) (cs : List Value) (k : Dot) (u : Value) (gE : Nat) (w : World) (ho : w.ownsRow base 176 3 (.slice A n cap) n cs)
  (hE : w.heap[gE]? = some (.cells #[.int .i64 k.f0, .int .i64 k.f1, u] 176 (0, 0))) (hu1 : u.oneCell' = true) (hn : n ≤ 1000000) (hb : base ≤ w.heap.size) :
  Calls Tryz.prog 137 #[.slice A n cap, .int .i64 n, .slice (some ⟨gE, 0, none⟩) 1 1] w fun e w' => ∃ v', e = .returned v' ∧ w'.ownsRow base 176 3 v' (n + 1) (cs ++ entCells k u) ∧ w.grownBy w' (Value.slice A n cap).ownBlock := by
 obtain ⟨i0, hi, hz0, hz1, hz2⟩ := info_parts infoE
 have HO := Aside0.mk ho
 have HE := Aside0.mk (entCells_at hE)
 have H1 := Aside0.mk (entCells_one (k := k) hu1)
 have hz := Tryz.zeroValue176
 have HN := Aside0.mk hn
 clear hE hu1
 have hcap : n ≤ cap := by
  rcases ho.2 with ⟨h, _⟩ | ⟨g, c, cur, h, _, _, hl, _⟩
  ·
   cases h; exact Nat.le_refl _
  ·
   cases h; exact hl
 clear ho
 cases A with
 | none =>
  go_enter Tryz.func137, Tryz.ntmps137
  go_wp2_with (at_builtin; go_loud (refine wpList_append_own _ rfl (.tmp 23) (.tmp 24) 171 rfl base 176 i0 _ 3 40 Tryz.underlying171 hi hz0 hz1 hz2 rfl (by decide) _ n cs rfl HO.out ⟨gE, 0, none⟩ 1 1 (entCells k u) rfl rfl HE.out H1.out (by unfold maxLen; have := HN.out; omega) (by have := HN.out; omega) hb ?_); intro v' w' ho2 hg2 hn2)
  go_ret
  exact ⟨_, rfl, ho2, hg2⟩
 | some ad =>
  go_enter Tryz.func137, Tryz.ntmps137
  go_wp2_with (at_builtin; go_loud (refine wpList_append_own _ rfl (.tmp 23) (.tmp 24) 171 rfl base 176 i0 _ 3 40 Tryz.underlying171 hi hz0 hz1 hz2 rfl (by decide) _ n cs rfl HO.out ⟨gE, 0, none⟩ 1 1 (entCells k u) rfl rfl HE.out H1.out (by unfold maxLen; have := HN.out; omega) (by have := HN.out; omega) hb ?_); intro v' w' ho2 hg2 hn2)
  all_goals
   go_ret
   exact ⟨_, rfl, ho2, hg2⟩
section
variable {P : Program} {ops : Array Oper} {rest : List Oper} {o : Oper} {a : Act} {Q : Exit → Act → World → Prop}
theorem wp_copy_eq {K : Act → World → Prop} (d s : Operand) (t : TypeId) (ho : o.op = .call { callee := .builtin .copy, args := #[d, s], argTypes := #[t, t] }) {v1 v2 v' : Value} {w w' : World}
  (hd : a.eval d = v1) (hs : a.eval s = v2) (hrun : (Builtin.copy_ #[t, t] o.type #[v1, v2]).run P w = .ok v' w') (h : K (a.put o.dst v') w') : o.wp P a w K Q := by
 unfold Oper.wp
 simp [execOp, ho, resolve, invoke, builtin, hd, hs, hrun, Result.andThen]
 exact h
theorem wpList_append_eq2 (hgd : o.guard = none) (s x : Operand) (t t' : TypeId) (ho : o.op = .call { callee := .builtin .append, args := #[s, x], argTypes := #[t, t'] }) {v1 v2 v' : Value} {w w' : World}
  (hs : a.eval s = v1) (hx : a.eval x = v2) (hrun : (Builtin.append_ #[t, t'] o.type #[v1, v2]).run P w = .ok v' w') (h : wpList P ops Q rest (a.put o.dst v') w') : wpList P ops Q (o :: rest) a w := by
 refine wpList_plain hgd fun K hK => ?_
 unfold Oper.wp
 simp [execOp, ho, resolve, invoke, builtin, hs, hx, hrun, Result.andThen]
 exact hK _ _ h
end
theorem add_lit (g o j : Nat) : (⟨g, o, none⟩ : Addr).add j = ⟨g, o + j, none⟩ := by unfold Addr.add; split <;> simp_all
def shiftInv (w W1 : World) (g gE n cap i j : Nat) (z10 z11 z12 z13 z14 z15 z16 z17 z18 z19 z20 z21 z22 z23 z24 z25 z26 z27 z28 z29 z30 z31 z32 z33 z34 z35 z36 z37 z38 z39 z40 z41 z42 z43 z44 z45 z46 z47 z48 z49 z50 z51 z52 z53 z54 z55 z56 z57 z58 z59 z60 z61 z62 z63 z64 z65 z66 z67 z68 : Value) (L : Array Bool) (ac : Act) (V : World) : Prop := ∃ (l0 l1 l2 l3 l4 l5 l6 l7 l8 : Bool), L = #[l0, l1, l2, l3, l4, l5, l6, l7, l8] ∧ ac = { tmps := #[.slice (some ⟨g, 0, none⟩) (n + 1) cap, .int .i64 i, .slice (some ⟨gE, 0, none⟩) 1 1, undef, undef, undef, .slice none 0 0, .int .i64 1, .int .i64 n, undef, z10, z11, z12, z13, z14, z15, z16, z17, z18, z19, z20, z21, z22, z23, z24, z25, z26, z27, z28, z29, z30, z31, z32, z33, z34, z35, z36, z37, z38, z39, z40, z41, z42, z43, z44, z45, z46, z47, z48, z49, z50, z51, z52, z53, z54, z55, z56, z57, z58, z59, z60, z61, z62, z63, z64, z65, z66, z67, z68, sel l0 (.slice (some ⟨g, 0, none⟩) (n + 1) cap), sel l1 (.int .i64 i), sel l2 (.int .i64 1), sel l3 (.int .i64 j), sel l4 (.slice (some ⟨g, j * 3, none⟩) (n + 1 - j) (cap - j)), sel l5 (.slice (some ⟨g, 0, none⟩) (n + 1) cap), sel l6 (.int .i64 i), sel l7 (.slice (some ⟨g, i * 3, none⟩) (n + 1 - i) (cap - i)), sel l8 (goInt ((n - i : Nat) : Int)), undef, undef, undef, undef, undef, undef, undef, undef, undef, undef, undef, undef, undef, undef, undef, undef, undef], defers := [] } ∧ Aside0 ((l8 = true → V = W1) ∧ (l8 = false → V = w.drew))
set_option maxHeartbeats 1000000 in
set_option maxRecDepth 100000 in
theorem insert_shift (base g n cap i : Nat) (cs : List Value) (k : Dot) (u : Value) (gE : Nat) (w : World) (ho : w.ownsRow base 176 3 (.slice (some ⟨g, 0, none⟩) n cap) n cs)
  (hE : w.heap[gE]? = some (.cells #[.int .i64 k.f0, .int .i64 k.f1, u] 176 (0, 0))) (hne : gE ≠ g) (hu1 : u.oneCell' = true) (hcs1 : ∀ v ∈ cs, v.oneCell' = true) (hn : n ≤ 1000000) (hi : i < n) (hroom : n + 1 ≤ cap) :
  Calls Tryz.prog 137 #[.slice (some ⟨g, 0, none⟩) n cap, .int .i64 i, .slice (some ⟨gE, 0, none⟩) 1 1] w fun e w' => ∃ v', e = .returned v' ∧ w'.ownsRow base 176 3 v' (n + 1) (cs.take (i * 3) ++ entCells k u ++ cs.drop (i * 3)) ∧ w.grownBy w' (some g) := by
 obtain ⟨hcl, ho⟩ := ho
 rcases ho with ⟨h, _⟩ | ⟨g', cap', cur, he, hbg, hcur, hle, hmx, hsz, htk⟩
 ·
  cases h
 cases he
 have hsize : (Tryz.prog.info? 176).map (·.size) = some 3 := by
  obtain ⟨i0, hi0, _, h1, _⟩ := info_parts infoE
  rw [hi0]; simp [h1]
 have hshE : w.shape? gE = some (176, 3) := by unfold World.shape?; rw [hE]; rfl
 have hshG : w.shape? g = some (176, cur.size) := by unfold World.shape?; rw [hcur]
 have hfE : ∀ j, w.frozen? ⟨gE, j, none⟩ = false := fun j => blk_frozen hE j
 have hov : ∀ off lb cb, (callFunc 143 #[.slice (some ⟨gE, 0, none⟩) 1 1, .slice (some ⟨g, off, none⟩) lb cb]).run Tryz.prog w = .ok (.value (.bool false)) w := fun off lb cb => by
  rw [run_callFunc_extern Tryz.func143 (by kernel_rfl) (by kernel_rfl) (by kernel_rfl) (e := Extern.SlicesOverlaps.overlaps #[171, 171] #[4]) (by kernel_rfl),
   Lib.run_overlaps_apart w 171 4 176 Tryz.underlying171 3 Tryz.sizeOf176 ⟨gE, 0, none⟩ ⟨g, off, none⟩ 1 1 lb cb hne 176 176 3 cur.size hshE hshG (by omega) (hfE 0) (hfE 3)]
  rfl
 have hcell : ∀ j v, cs[j]? = some v → w.cell? ⟨g, j, none⟩ = some v := fun j v hj => by
  rw [blk_cell hcur, ← Array.getElem?_toList]
  rw [← htk, List.getElem?_take] at hj
  split at hj
  ·
   exact hj
  ·
   cases hj
 have hcul : cur.toList.length = cap * 3 := by rw [Array.length_toList]; exact hsz
 have hdl : (cs.drop (i * 3)).length = (n - i) * 3 := by rw [List.length_drop, hcl]; omega
 have hdl2 : (cs.take (i * 3)).length = i * 3 := by rw [List.length_take, hcl]; omega
 obtain ⟨j, hj⟩ : ∃ j, i + 1 = j := ⟨_, rfl⟩
 -- the first copy: what stands from i on goes one place up
 have hcp1 := run_copy_rowK (P := Tryz.prog) w.drew 171 171 3 176 3 g (j * 3) (n + 1 - j) (cap - j) ⟨g, i * 3, none⟩ (n + 1 - i) (cap - i) cur 176 (cs.drop (i * 3)) Tryz.underlying171 hsize hcur
  (by rw [hdl]; congr 1; simp only [Nat.min_def]; split <;> omega)
  (fun j v hj => by rw [add_lit]; exact hcell _ v (by rwa [List.getElem?_drop] at hj))
  (by
   rw [hdl, hsz]; exact (show j * 3 + (n - i) * 3 ≤ cap * 3 by omega)) (fun v hv => hcs1 v (List.mem_of_mem_drop hv))
 have hmin1 : Nat.min (n + 1 - i) (n + 1 - j) = n - i := by simp only [Nat.min_def]; split <;> omega
 rw [hmin1] at hcp1
 obtain ⟨cur1, hc1⟩ : ∃ cur1, (cur.toList.take (j * 3) ++ cs.drop (i * 3) ++ cur.toList.drop (j * 3 + (cs.drop (i * 3)).length)).toArray = cur1 := ⟨_, rfl⟩
 rw [hc1] at hcp1
 have hcl1 : cur1.toList.length = cap * 3 := by
  rw [← hc1]
  simp only [List.length_append, List.length_take, List.length_drop, hcul, hcl]
  omega
 have h1a : cur1.toList.take (i * 3) = cs.take (i * 3) := by
  rw [← hc1, ← htk]
  simp only []
  rw [List.append_assoc, List.take_append_of_le_length (by rw [List.length_take, hcul]; omega), List.take_take, List.take_take]
  congr 1; omega
 have h1b : (cur1.toList.drop (i * 3 + 3)).take ((n - i) * 3) = cs.drop (i * 3) := by
  rw [← hc1]
  simp only []
  rw [List.append_assoc, List.drop_append_of_le_length (by rw [List.length_take, hcul]; omega), List.drop_of_length_le (by rw [List.length_take, hcul]; omega), List.nil_append, List.take_left' hdl]
 obtain ⟨W1, hW1⟩ : ∃ W1, w.drew.setRow g cur1 = W1 := ⟨_, rfl⟩
 rw [hW1] at hcp1
 have hcur1 : W1.heap[g]? = some (.cells cur1 176 (0, 0)) := by rw [← hW1]; exact setRow_at (show w.drew.heap[g]? = _ from hcur) cur1
 have hE1 : W1.heap[gE]? = some (.cells #[.int .i64 k.f0, .int .i64 k.f1, u] 176 (0, 0)) := by rw [← hW1]; exact (setRow_other w.drew g gE cur1 hne).trans hE
 have hg1 : w.grownBy W1 (some g) := by
  rw [← hW1]
  have := setRow_grown w.drew g cur1
  exact ⟨this.os, this.tape, this.output, this.size, this.block⟩
 -- the second one: the entry
 have hcp2 := run_copy_rowK (P := Tryz.prog) W1 171 171 3 176 3 g (i * 3) (n + 1 - i) (cap - i) ⟨gE, 0, none⟩ 1 1 cur1 176 (entCells k u) Tryz.underlying171 hsize hcur1
  (by show 3 = _; simp only [Nat.min_def]; split <;> omega) (fun j v hj => entCells_at hE1 j v hj) (by rw [← Array.length_toList, hcl1]; show i * 3 + 3 ≤ _; omega) (entCells_one hu1)
 have hmin2 : Nat.min 1 (n + 1 - i) = 1 := by simp only [Nat.min_def]; split <;> omega
 rw [hmin2] at hcp2
 obtain ⟨cur2, hc2⟩ : ∃ cur2, (cur1.toList.take (i * 3) ++ entCells k u ++ cur1.toList.drop (i * 3 + (entCells k u).length)).toArray = cur2 := ⟨_, rfl⟩
 rw [hc2] at hcp2
 obtain ⟨W2, hW2⟩ : ∃ W2, W1.setRow g cur2 = W2 := ⟨_, rfl⟩
 rw [hW2] at hcp2
 have HEND : Aside0 (W2.ownsRow base 176 3 (.slice (some ⟨g, 0, none⟩) (n + 1) cap) (n + 1) (cs.take (i * 3) ++ entCells k u ++ cs.drop (i * 3)) ∧ w.grownBy W2 (some g)) := ⟨by
  refine ⟨⟨?_, .inr ⟨g, cap, cur2, rfl, hbg, by rw [← hW2]; exact setRow_at hcur1 cur2, hroom, hmx, ?_, ?_⟩⟩, ?_⟩
  ·
   simp only [List.length_append, hdl, hdl2, List.length_cons, List.length_nil]; omega
  ·
   rw [← Array.length_toList, ← hc2]
   simp only [List.length_append, List.length_take, List.length_drop, List.length_cons, List.length_nil, hcl1]; omega
  ·
   rw [← hc2, ← h1a, ← h1b]
   simp only []
   rw [show (n + 1) * 3 = (i * 3 + 3) + (n - i) * 3 by omega]
   have hl : (cur1.toList.take (i * 3) ++ entCells k u).length = i * 3 + 3 := by simp only [List.length_append, List.length_take, List.length_cons, List.length_nil, hcl1]; omega
   rw [show i * 3 + (entCells k u).length = i * 3 + 3 from rfl, ← hl, List.take_length_add_append]
  ·
   rw [← hW2]
   have h2 := setRow_grown W1 g cur2
   exact ⟨h2.os.trans hg1.os, h2.tape.trans hg1.tape, h2.output.trans hg1.output, Nat.le_trans hg1.size h2.size, fun q hq hqn => (h2.block q (Nat.lt_of_lt_of_le hq hg1.size) hqn).trans (hg1.block q hq hqn)⟩⟩
 have HCP1 := Aside0.mk hcp1
 have HCP2 := Aside0.mk hcp2
 clear hcp1 hcp2 hW2 hc2 hg1 hE1 hcur1 hW1 h1a h1b hcl1 hc1 hcul hdl hdl2 hcell hfE hshE hshG hsize hcur htk hsz hcl hmin1 hmin2
 have hz1 : ((i : Int) == (n : Int)) = false := beq_eq_false_iff_ne.2 (by omega)
 have hz2 : decide ((n : Int) + 1 > (cap : Int)) = false := decide_eq_false (by omega)
 have hz3 : decide ((cap : Int) < (n : Int) + 1) = false := decide_eq_false (by omega)
 obtain ⟨rs, HRS⟩ : ∃ rs, Aside0 (cs.take (i * 3) ++ entCells k u ++ cs.drop (i * 3) = rs) := ⟨_, ⟨rfl⟩⟩
 rw [HRS.out] at HEND ⊢
 have hij : (i : Int) + 1 = (j : Int) := by omega
 have hjn : j ≤ n + 1 := by omega
 have hjc : ¬ (cap = j) := by omega
 have hic : ¬ (cap = i) := by omega
 have hin : i ≤ n + 1 := by omega
 have hjn2 : (j : Int) ≤ (n : Int) + 1 := by omega
 have hin2 : (i : Int) ≤ (n : Int) + 1 := by omega
 have hjn3 : j ≤ n := by omega
 clear hj
 go_enter Tryz.func137, Tryz.ntmps137
 go_wp2_with (simp only [hov])
 refine AnyOrder.wp_region (by kernel_rfl) (shiftInv w W1 g gE n cap i j _ _ _ _ _ _ _ _ _ _ _ _ _ _ _ _ _ _ _ _ _ _ _ _ _ _ _ _ _ _ _ _ _ _ _ _ _ _ _ _ _ _ _ _ _ _ _ _ _ _ _ _ _ _ _ _ _ _ _) ⟨false, false, false, false, false, false, false, false, false, rfl, rfl, ⟨⟨fun h => (by cases h), fun _ => rfl⟩⟩⟩ ?step ?last
 case step =>
  rintro L ac V i ⟨l0, l1, l2, l3, l4, l5, l6, l7, l8, rfl, rfl, HF⟩ hi K hK
  have h1 : i = 0 ∨ i = 1 ∨ i = 2 ∨ i = 3 ∨ i = 4 ∨ i = 5 ∨ i = 6 ∨ i = 7 ∨ i = 8 := by
   have h1 := (AnyOrder.mem_ready hi).1
   clear hi hK
   change i < 9 at h1
   omega
  rcases h1 with rfl | rfl | rfl | rfl | rfl | rfl | rfl | rfl | rfl
  ·
   obtain rfl : l0 = false := (AnyOrder.mem_ready hi).2.1
   clear hi
   refine AnyOrder.wpOp_go rfl (by rfl) ?_
   go_wp2_with fail
   exact ⟨true, l1, l2, l3, l4, l5, l6, l7, l8, rfl, rfl, HF⟩
  ·
   obtain rfl : l1 = false := (AnyOrder.mem_ready hi).2.1
   clear hi
   refine AnyOrder.wpOp_go rfl (by rfl) ?_
   go_wp2_with fail
   exact ⟨l0, true, l2, l3, l4, l5, l6, l7, l8, rfl, rfl, HF⟩
  ·
   obtain rfl : l2 = false := (AnyOrder.mem_ready hi).2.1
   clear hi
   refine AnyOrder.wpOp_go rfl (by rfl) ?_
   go_wp2_with fail
   exact ⟨l0, l1, true, l3, l4, l5, l6, l7, l8, rfl, rfl, HF⟩
  ·
   obtain rfl : l3 = false := (AnyOrder.mem_ready hi).2.1
   obtain rfl : l1 = true := AnyOrder.dep (q := 0) hi rfl rfl rfl
   obtain rfl : l2 = true := AnyOrder.dep (q := 1) hi rfl rfl rfl
   clear hi
   simp only [sel_true, selv_true] at hK ⊢
   refine AnyOrder.wpOp_go rfl (by rfl) ?_
   go_wp2_with fail
   exact ⟨l0, true, true, true, l4, l5, l6, l7, l8, rfl, rfl, HF⟩
  ·
   obtain rfl : l4 = false := (AnyOrder.mem_ready hi).2.1
   obtain rfl : l0 = true := AnyOrder.dep (q := 0) hi rfl rfl rfl
   obtain rfl : l3 = true := AnyOrder.dep (q := 1) hi rfl rfl rfl
   clear hi
   simp only [sel_true, selv_true] at hK ⊢
   refine AnyOrder.wpOp_go rfl (by rfl) ?_
   go_wp2_with fail
   exact ⟨true, l1, l2, true, true, l5, l6, l7, l8, rfl, rfl, HF⟩
  ·
   obtain rfl : l5 = false := (AnyOrder.mem_ready hi).2.1
   clear hi
   refine AnyOrder.wpOp_go rfl (by rfl) ?_
   go_wp2_with fail
   exact ⟨l0, l1, l2, l3, l4, true, l6, l7, l8, rfl, rfl, HF⟩
  ·
   obtain rfl : l6 = false := (AnyOrder.mem_ready hi).2.1
   clear hi
   refine AnyOrder.wpOp_go rfl (by rfl) ?_
   go_wp2_with fail
   exact ⟨l0, l1, l2, l3, l4, l5, true, l7, l8, rfl, rfl, HF⟩
  ·
   obtain rfl : l7 = false := (AnyOrder.mem_ready hi).2.1
   obtain rfl : l5 = true := AnyOrder.dep (q := 0) hi rfl rfl rfl
   obtain rfl : l6 = true := AnyOrder.dep (q := 1) hi rfl rfl rfl
   clear hi
   simp only [sel_true, selv_true] at hK ⊢
   refine AnyOrder.wpOp_go rfl (by rfl) ?_
   go_wp2_with fail
   exact ⟨l0, l1, l2, l3, l4, true, true, true, l8, rfl, rfl, HF⟩
  ·
   obtain rfl : l8 = false := (AnyOrder.mem_ready hi).2.1
   obtain rfl : l4 = true := AnyOrder.dep (q := 0) hi rfl rfl rfl
   obtain rfl : l7 = true := AnyOrder.dep (q := 1) hi rfl rfl rfl
   clear hi
   simp only [sel_true, selv_true] at hK ⊢
   obtain rfl := HF.out.2 rfl
   refine AnyOrder.wpOp_go rfl (by rfl) ?_
   refine wp_copy_eq (.tmp 73) (.tmp 76) 171 rfl rfl rfl (HCP1.out) ?_
   exact hK _ _ ⟨l0, l1, l2, l3, true, l5, l6, true, true, rfl, rfl, ⟨⟨fun _ => rfl, fun h => (by cases h)⟩⟩⟩
 case last =>
  rintro L ac V ⟨l0, l1, l2, l3, l4, l5, l6, l7, l8, rfl, rfl, HF⟩ hr
  have hall := AnyOrder.all_listed rfl (by kernel_rfl) hr
  clear hr
  obtain rfl : l0 = true := hall 0 (by decide)
  obtain rfl : l1 = true := hall 1 (by decide)
  obtain rfl : l2 = true := hall 2 (by decide)
  obtain rfl : l3 = true := hall 3 (by decide)
  obtain rfl : l4 = true := hall 4 (by decide)
  obtain rfl : l5 = true := hall 5 (by decide)
  obtain rfl : l6 = true := hall 6 (by decide)
  obtain rfl : l7 = true := hall 7 (by decide)
  obtain rfl : l8 = true := hall 8 (by decide)
  clear hall
  simp only [sel_true, selv_true]
  obtain rfl := HF.out.1 rfl
  have hcp2 := HCP2.out
  go_wp2
  go_ret
  exact ⟨_, rfl, HEND.out⟩
def grownInv (W2 W3 : World) (N g gE n G cap i j : Nat) (z10 z11 z12 z13 z14 z15 z16 z17 z18 z19 z20 z21 z22 z23 z24 z25 z26 z27 z28 z29 z30 z31 z32 z33 z34 z35 z36 z37 z38 z39 z40 z41 z42 z43 z44 z45 : Value) (L : Array Bool) (ac : Act) (V : World) : Prop := ∃ (l0 l1 l2 l3 l4 l5 l6 l7 l8 : Bool), L = #[l0, l1, l2, l3, l4, l5, l6, l7, l8] ∧ ac = { tmps := #[.slice (some ⟨g, 0, none⟩) n cap, .int .i64 i, .slice (some ⟨gE, 0, none⟩) 1 1, undef, undef, undef, .slice none 0 0, .int .i64 1, .int .i64 n, .slice (some ⟨N, 0, none⟩) (n + 1) G, z10, z11, z12, z13, z14, z15, z16, z17, z18, z19, z20, z21, z22, z23, z24, z25, z26, z27, z28, z29, z30, z31, z32, z33, z34, z35, z36, z37, z38, z39, z40, z41, z42, z43, z44, z45, sel l0 (.slice (some ⟨N, 0, none⟩) (n + 1) G), sel l1 (.int .i64 i), sel l2 (.int .i64 1), sel l3 (.int .i64 j), sel l4 (.slice (some ⟨N, j * 3, none⟩) (n + 1 - j) (G - j)), sel l5 (.slice (some ⟨g, 0, none⟩) n cap), sel l6 (.int .i64 i), sel l7 (.slice (some ⟨g, i * 3, none⟩) (n - i) (cap - i)), sel l8 (goInt ((n - i : Nat) : Int)), undef, undef, undef, undef, undef, undef, undef, undef, undef, undef, undef, undef, undef, undef, undef, undef, undef, undef, undef, undef, undef, undef, undef, undef, undef, undef, undef, undef, undef, undef, undef, undef, undef, undef, undef, undef, undef, undef, undef, undef], defers := [] } ∧ Aside0 ((l8 = true → V = W3) ∧ (l8 = false → V = W2.drew))
set_option maxHeartbeats 1000000 in
set_option maxRecDepth 100000 in
theorem insert_grow (base g n cap i : Nat) (cs : List Value) (k : Dot) (u : Value) (gE : Nat) (w : World) (ho : w.ownsRow base 176 3 (.slice (some ⟨g, 0, none⟩) n cap) n cs)
  (hE : w.heap[gE]? = some (.cells #[.int .i64 k.f0, .int .i64 k.f1, u] 176 (0, 0))) (hu1 : u.oneCell' = true) (hcs1 : ∀ v ∈ cs, v.oneCell' = true) (hn : n ≤ 1000000) (hi : i < n) (hroom : cap < n + 1) (hb : base ≤ w.heap.size) :
  Calls Tryz.prog 137 #[.slice (some ⟨g, 0, none⟩) n cap, .int .i64 i, .slice (some ⟨gE, 0, none⟩) 1 1] w fun e w' => ∃ v', e = .returned v' ∧ w'.ownsRow base 176 3 v' (n + 1) (cs.take (i * 3) ++ entCells k u ++ cs.drop (i * 3)) ∧ w.grownBy w' (some g) := by
 obtain ⟨hcl, ho⟩ := ho
 rcases ho with ⟨h, _⟩ | ⟨g', cap', cur, he, hbg, hcur, hle, hmx, hsz, htk⟩
 ·
  cases h
 cases he
 obtain ⟨i0, hi0, hz0, hzs, hzb⟩ := info_parts infoE
 have hsize : (Tryz.prog.info? 176).map (·.size) = some 3 := by rw [hi0]; simp [hzs]
 have hcell : ∀ j v, cs[j]? = some v → w.cell? ⟨g, j, none⟩ = some v := fun j v hj => by
  rw [blk_cell hcur, ← Array.getElem?_toList]
  rw [← htk, List.getElem?_take] at hj
  split at hj
  ·
   exact hj
  ·
   cases hj
 have hgl : g < w.heap.size := blk_lt hcur
 have hel : gE < w.heap.size := blk_lt hE
 have hdl : (cs.drop (i * 3)).length = (n - i) * 3 := by rw [List.length_drop, hcl]; omega
 have hdl2 : (cs.take (i * 3)).length = i * 3 := by rw [List.length_take, hcl]; omega
 obtain ⟨z, hz⟩ : ∃ z : Value, (Value.agg #[(.int .i64 0), (.int .i64 0), (.slice none 0 0)]) = z := ⟨_, rfl⟩
 have hzc : z.cells.size = 3 := by rw [← hz]; rfl
 rw [hz] at hz0
 have hold : (Builtin.firstCells i0.size i (.slice (some ⟨g, 0, none⟩) i cap)).run Tryz.prog w.drew = .ok (cs.take (i * 3)).toArray w.drew := by
  rw [hzs]
  exact run_firstCells_some w.drew 3 i ⟨g, 0, none⟩ i cap (cs.take (i * 3)) (by rw [hdl2]) (fun j v hj => by
   rw [add_lit, Nat.zero_add]
   rw [List.getElem?_take] at hj
   split at hj
   ·
    exact hcell j v hj
   ·
    cases hj)
 obtain ⟨G, hG⟩ : ∃ G, G = grownCap w (n + 1) cap 176 := ⟨_, rfl⟩
 have hGn : n + 1 ≤ G := by rw [hG]; exact grownCap_ge w _ _ _
 have hGm : G ≤ maxLen := by rw [hG]; exact grownCap_le_maxLen w (n + 1) cap 176 (by unfold maxLen; omega)
 have hrz := Lib.run_append_grow_zeros w 171 3 171 176 i0 z .i64 .i64 Tryz.underlying171 Tryz.underlying3 hi0 hz0 (some ⟨g, 0, none⟩) i cap (cs.take (i * 3)) hold (n + 1 - i) (by omega) (by omega) (by omega) (by omega) (by rw [hzb]; omega) (by rw [hzb, show i + (n + 1 - i) = n + 1 by omega]; exact growslice_fits hroom (by omega))
 rw [show i + (n + 1 - i) = n + 1 by omega, ← hG] at hrz
 obtain ⟨ROW, hROW⟩ : ∃ ROW : Array Value, (cs.take (i * 3)).toArray ++ Builtin.zeroCells z.cells (n + 1 - i) ++ Builtin.zeroCells z.cells (G - (n + 1)) = ROW := ⟨_, rfl⟩
 rw [hROW] at hrz
 have hRs : ROW.size = G * 3 := by
  rw [← hROW, Array.size_append, Array.size_append, size_zeroCells, size_zeroCells, hzc, List.size_toArray, hdl2]; omega
 have hRl : ROW.toList.length = G * 3 := by rw [Array.length_toList]; exact hRs
 have hRt : ROW.toList.take (i * 3) = cs.take (i * 3) := by
  rw [← hROW, Array.toList_append, Array.toList_append, List.append_assoc]
  simp only []
  rw [List.take_left' hdl2]
 obtain ⟨W1, hW1⟩ : ∃ W1, w.drew.alloc (.cells ROW 176) = W1 := ⟨_, rfl⟩
 rw [hW1] at hrz
 obtain ⟨N, hN⟩ : ∃ N, w.heap.size = N := ⟨_, rfl⟩
 have hW1N : W1.heap[N]? = some (.cells ROW 176 (0, 0)) := by rw [← hW1, ← hN]; exact blk_new w.drew _
 have hW1o : ∀ q, q < N → W1.heap[q]? = w.heap[q]? := fun q hq => by rw [← hW1]; exact ((Below.refl _ w.drew).alloc (Nat.le_refl _) _).block q (by show q < w.heap.size; omega)
 have hW1b : Below w.heap.size w W1 := by rw [← hW1]; exact below_alloc (below_drew1 (Below.refl _ _)) _
 -- the first copy: the entry
 have hE1 : W1.heap[gE]? = some (.cells #[.int .i64 k.f0, .int .i64 k.f1, u] 176 (0, 0)) := (hW1o gE (by omega)).trans hE
 have hcp1 := run_copy_rowK (P := Tryz.prog) W1 171 171 3 176 3 N (i * 3) (n + 1 - i) (G - i) ⟨gE, 0, none⟩ 1 1 ROW 176 (entCells k u) Tryz.underlying171 hsize hW1N
  (by show 3 = _; simp only [Nat.min_def]; split <;> omega) (fun j v hj => entCells_at hE1 j v hj) (by rw [hRs]; show i * 3 + 3 ≤ _; omega) (entCells_one hu1)
 have hmin1 : Nat.min 1 (n + 1 - i) = 1 := by simp only [Nat.min_def]; split <;> omega
 rw [hmin1] at hcp1
 obtain ⟨cur1, hc1⟩ : ∃ cur1, (ROW.toList.take (i * 3) ++ entCells k u ++ ROW.toList.drop (i * 3 + (entCells k u).length)).toArray = cur1 := ⟨_, rfl⟩
 rw [hc1] at hcp1
 have hcl1 : cur1.toList.length = G * 3 := by
  rw [← hc1]
  simp only [List.length_append, List.length_take, List.length_drop, List.length_cons, List.length_nil, hRl]; omega
 obtain ⟨j, hj⟩ : ∃ j, i + 1 = j := ⟨_, rfl⟩
 have h1a : cur1.toList.take (j * 3) = cs.take (i * 3) ++ entCells k u := by
  rw [← hc1, hRt]
  simp only []
  exact List.take_left' (by rw [List.length_append, hdl2]; show i * 3 + 3 = j * 3; omega)
 obtain ⟨W2, hW2⟩ : ∃ W2, W1.setRow N cur1 = W2 := ⟨_, rfl⟩
 rw [hW2] at hcp1
 have hW2N : W2.heap[N]? = some (.cells cur1 176 (0, 0)) := by rw [← hW2]; exact setRow_at hW1N cur1
 have hW2o : ∀ q, q < N → W2.heap[q]? = w.heap[q]? := fun q hq => by rw [← hW2]; exact (setRow_other W1 N q cur1 (by omega)).trans (hW1o q hq)
 have hg2 := setRow_grown W1 N cur1
 rw [hW2] at hg2
 -- the second one: what stood from i on
 have hcp2 := run_copy_rowK (P := Tryz.prog) W2.drew 171 171 3 176 3 N (j * 3) (n + 1 - j) (G - j) ⟨g, i * 3, none⟩ (n - i) (cap - i) cur1 176 (cs.drop (i * 3)) Tryz.underlying171 hsize hW2N
  (by rw [hdl]; congr 1; simp only [Nat.min_def]; split <;> omega)
  (fun q v hq => by
   rw [add_lit]
   have := hcell _ v (by rwa [List.getElem?_drop] at hq)
   rw [← this]
   exact World.cell?_of_block (w := w) (hW2o g (by omega)))
  (by rw [hdl, ← Array.length_toList, hcl1]; omega) (fun v hv => hcs1 v (List.mem_of_mem_drop hv))
 have hmin2 : Nat.min (n - i) (n + 1 - j) = n - i := by simp only [Nat.min_def]; split <;> omega
 rw [hmin2] at hcp2
 obtain ⟨cur2, hc2⟩ : ∃ cur2, (cur1.toList.take (j * 3) ++ cs.drop (i * 3) ++ cur1.toList.drop (j * 3 + (cs.drop (i * 3)).length)).toArray = cur2 := ⟨_, rfl⟩
 rw [hc2] at hcp2
 obtain ⟨W3, hW3⟩ : ∃ W3, W2.drew.setRow N cur2 = W3 := ⟨_, rfl⟩
 rw [hW3] at hcp2
 have hg3 := setRow_grown W2.drew N cur2
 rw [hW3] at hg3
 have HEND : Aside0 (W3.ownsRow base 176 3 (.slice (some ⟨N, 0, none⟩) (n + 1) G) (n + 1) (cs.take (i * 3) ++ entCells k u ++ cs.drop (i * 3)) ∧ w.grownBy W3 (some g)) := ⟨by
  refine ⟨⟨?_, .inr ⟨N, G, cur2, rfl, by omega, by rw [← hW3]; exact setRow_at (show W2.drew.heap[N]? = _ from hW2N) cur2, hGn, hGm, ?_, ?_⟩⟩, ?_⟩
  ·
   simp only [List.length_append, hdl, hdl2, List.length_cons, List.length_nil]; omega
  ·
   rw [← Array.length_toList, ← hc2]
   simp only [List.length_append, List.length_take, List.length_drop, List.length_cons, List.length_nil, hcl1, hcl]; omega
  ·
   rw [← hc2, h1a]
   simp only []
   exact List.take_left' (by simp only [List.length_append, hdl, hdl2, List.length_cons, List.length_nil]; omega)
  ·
   exact ⟨hg3.os.trans (hg2.os.trans hW1b.os), hg3.tape.trans (hg2.tape.trans hW1b.tape), hg3.output.trans (hg2.output.trans hW1b.output), Nat.le_trans hW1b.size (Nat.le_trans hg2.size hg3.size), fun q hq _ => by
    have h3 := hg3.block q (by show q < W2.heap.size; have := hg2.size; have := hW1b.size; omega) (fun e => by cases e; omega)
    exact h3.trans (hW2o q (by omega))⟩⟩
 obtain ⟨rs, HRS⟩ : ∃ rs, Aside0 (cs.take (i * 3) ++ entCells k u ++ cs.drop (i * 3) = rs) := ⟨_, ⟨rfl⟩⟩
 rw [HRS.out] at HEND ⊢
 rw [hN] at hrz
 have HRZ := Aside0.mk hrz
 have HCP1 := Aside0.mk hcp1
 have HCP2 := Aside0.mk hcp2
 have HGM : Aside0 (G ≤ 9223372036854775807) := ⟨by unfold maxLen at hGm; omega⟩
 clear hG hcp1 hcp2 hrz hg2 hg3 hW3 hW2 hW1 hc1 hc2 h1a hcl1 hRl hRt hRs hROW hold hz hzc hz0 hzs hzb hi0 hsize hcell hdl hdl2 hW1b hW1o hW1N hE1 hW2N hW2o hcur htk hsz hcl hE hmin1 hmin2 hmx hGm hgl hel hbg hN hb
 have hz1 : ((i : Int) == (n : Int)) = false := beq_eq_false_iff_ne.2 (by omega)
 have hz2 : decide ((n : Int) + 1 > (cap : Int)) = true := decide_eq_true (by omega)
 have hz3 : decide ((cap : Int) < (n : Int) + 1) = true := decide_eq_true (by omega)
 have hij : (i : Int) + 1 = (j : Int) := by omega
 have hjn : j ≤ n + 1 := by omega
 have hjc : ¬ (G = j) := by omega
 have hic : ¬ (G = i) := by omega
 have hin : i ≤ n + 1 := by omega
 have hjn2 : (j : Int) ≤ (n : Int) + 1 := by omega
 have hin2 : (i : Int) ≤ (n : Int) + 1 := by omega
 have hic2 : ¬ (cap = i) := by omega
 have hkk : (n : Int) + 1 - (i : Int) = ((n + 1 - i : Nat) : Int) := by omega
 have hcp1 := HCP1.out
 clear hj
 go_enter Tryz.func137, Tryz.ntmps137
 go_wp2_with (at_builtin; refine wpList_append_eq2 rfl (.tmp 34) (.tmp 39) 171 3 rfl rfl rfl HRZ.out ?_)
 refine AnyOrder.wp_region (by kernel_rfl) (grownInv W2 W3 N g gE n G cap i j _ _ _ _ _ _ _ _ _ _ _ _ _ _ _ _ _ _ _ _ _ _ _ _ _ _ _ _ _ _ _ _ _ _ _ _) ⟨false, false, false, false, false, false, false, false, false, rfl, rfl, ⟨⟨fun h => (by cases h), fun _ => rfl⟩⟩⟩ ?step ?last
 case step =>
  rintro L ac V i ⟨l0, l1, l2, l3, l4, l5, l6, l7, l8, rfl, rfl, HF⟩ hi K hK
  have h1 : i = 0 ∨ i = 1 ∨ i = 2 ∨ i = 3 ∨ i = 4 ∨ i = 5 ∨ i = 6 ∨ i = 7 ∨ i = 8 := by
   have h1 := (AnyOrder.mem_ready hi).1
   clear hi hK
   change i < 9 at h1
   omega
  rcases h1 with rfl | rfl | rfl | rfl | rfl | rfl | rfl | rfl | rfl
  ·
   obtain rfl : l0 = false := (AnyOrder.mem_ready hi).2.1
   clear hi
   refine AnyOrder.wpOp_go rfl (by rfl) ?_
   go_wp2_with fail
   exact ⟨true, l1, l2, l3, l4, l5, l6, l7, l8, rfl, rfl, HF⟩
  ·
   obtain rfl : l1 = false := (AnyOrder.mem_ready hi).2.1
   clear hi
   refine AnyOrder.wpOp_go rfl (by rfl) ?_
   go_wp2_with fail
   exact ⟨l0, true, l2, l3, l4, l5, l6, l7, l8, rfl, rfl, HF⟩
  ·
   obtain rfl : l2 = false := (AnyOrder.mem_ready hi).2.1
   clear hi
   refine AnyOrder.wpOp_go rfl (by rfl) ?_
   go_wp2_with fail
   exact ⟨l0, l1, true, l3, l4, l5, l6, l7, l8, rfl, rfl, HF⟩
  ·
   obtain rfl : l3 = false := (AnyOrder.mem_ready hi).2.1
   obtain rfl : l1 = true := AnyOrder.dep (q := 0) hi rfl rfl rfl
   obtain rfl : l2 = true := AnyOrder.dep (q := 1) hi rfl rfl rfl
   clear hi
   simp only [sel_true, selv_true] at hK ⊢
   refine AnyOrder.wpOp_go rfl (by rfl) ?_
   go_wp2_with fail
   exact ⟨l0, true, true, true, l4, l5, l6, l7, l8, rfl, rfl, HF⟩
  ·
   obtain rfl : l4 = false := (AnyOrder.mem_ready hi).2.1
   obtain rfl : l0 = true := AnyOrder.dep (q := 0) hi rfl rfl rfl
   obtain rfl : l3 = true := AnyOrder.dep (q := 1) hi rfl rfl rfl
   clear hi
   simp only [sel_true, selv_true] at hK ⊢
   refine AnyOrder.wpOp_go rfl (by rfl) ?_
   go_wp2_with fail
   exact ⟨true, l1, l2, true, true, l5, l6, l7, l8, rfl, rfl, HF⟩
  ·
   obtain rfl : l5 = false := (AnyOrder.mem_ready hi).2.1
   clear hi
   refine AnyOrder.wpOp_go rfl (by rfl) ?_
   go_wp2_with fail
   exact ⟨l0, l1, l2, l3, l4, true, l6, l7, l8, rfl, rfl, HF⟩
  ·
   obtain rfl : l6 = false := (AnyOrder.mem_ready hi).2.1
   clear hi
   refine AnyOrder.wpOp_go rfl (by rfl) ?_
   go_wp2_with fail
   exact ⟨l0, l1, l2, l3, l4, l5, true, l7, l8, rfl, rfl, HF⟩
  ·
   obtain rfl : l7 = false := (AnyOrder.mem_ready hi).2.1
   obtain rfl : l5 = true := AnyOrder.dep (q := 0) hi rfl rfl rfl
   obtain rfl : l6 = true := AnyOrder.dep (q := 1) hi rfl rfl rfl
   clear hi
   simp only [sel_true, selv_true] at hK ⊢
   refine AnyOrder.wpOp_go rfl (by rfl) ?_
   go_wp2_with fail
   exact ⟨l0, l1, l2, l3, l4, true, true, true, l8, rfl, rfl, HF⟩
  ·
   obtain rfl : l8 = false := (AnyOrder.mem_ready hi).2.1
   obtain rfl : l4 = true := AnyOrder.dep (q := 0) hi rfl rfl rfl
   obtain rfl : l7 = true := AnyOrder.dep (q := 1) hi rfl rfl rfl
   clear hi
   simp only [sel_true, selv_true] at hK ⊢
   obtain rfl := HF.out.2 rfl
   refine AnyOrder.wpOp_go rfl (by rfl) ?_
   refine wp_copy_eq (.tmp 50) (.tmp 53) 171 rfl rfl rfl (HCP2.out) ?_
   exact hK _ _ ⟨l0, l1, l2, l3, true, l5, l6, true, true, rfl, rfl, ⟨⟨fun _ => rfl, fun h => (by cases h)⟩⟩⟩
 case last =>
  rintro L ac V ⟨l0, l1, l2, l3, l4, l5, l6, l7, l8, rfl, rfl, HF⟩ hr
  have hall := AnyOrder.all_listed rfl (by kernel_rfl) hr
  clear hr
  obtain rfl : l0 = true := hall 0 (by decide)
  obtain rfl : l1 = true := hall 1 (by decide)
  obtain rfl : l2 = true := hall 2 (by decide)
  obtain rfl : l3 = true := hall 3 (by decide)
  obtain rfl : l4 = true := hall 4 (by decide)
  obtain rfl : l5 = true := hall 5 (by decide)
  obtain rfl : l6 = true := hall 6 (by decide)
  obtain rfl : l7 = true := hall 7 (by decide)
  obtain rfl : l8 = true := hall 8 (by decide)
  clear hall
  simp only [sel_true, selv_true]
  obtain rfl := HF.out.1 rfl
  go_wp2
  go_ret
  exact ⟨_, rfl, HEND.out⟩
end Go.Proofs.YtmbndijbpgobeaaGreat.PWalk
end
