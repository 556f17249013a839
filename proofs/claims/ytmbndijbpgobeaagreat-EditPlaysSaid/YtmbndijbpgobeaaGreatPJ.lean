/-
  The law EditPlays of layer 15 holds for all lists of edits. Part 10 of 12.
-/
import Derived.Test.YtmbndijbpgobeaaGreatPI
section
namespace Go.Proofs.YtmbndijbpgobeaaGreat.PWalk
open Go.RowKit Go.Proofs.YtmbndijbpgobeaaGreatW.PrintWords Go.Proofs.YtmbndijbpgobeaaGreatW.PrintLast Go.Proofs.YtmbndijbpgobeaaGreatW.PrintMore
attribute [local go_sem] max2_int max_two
set_option linter.unusedVariables false
set_option linter.unusedSimpArgs false
section
def redpencilref14_first.f (a0_0 : Int) (a0_1 : Int) (a0_2 : Int) (a0_3 : Int) (a0_4 : Int) (a0_5 : Int) (a1_0 : Int) (a1_1 : Int) (a1_2 : Int) (a1_3 : Int) (a1_4 : Int) (a1_5 : Int) : Option (Bool) := if a0_4 > a1_4 then (some true) else (if a0_4 = a1_4 then ((redpencilref14_Before.f a1_0 a1_1 a0_0 a0_1).bind fun t263 => (some t263)) else (some false))
set_option maxHeartbeats 8000000 in
set_option maxRecDepth 100000 in
theorem redpencilref14_first.calls (a0_0 : Int) (a0_1 : Int) (a0_2 : Int) (a0_3 : Int) (a0_4 : Int) (a0_5 : Int) (a1_0 : Int) (a1_1 : Int) (a1_2 : Int) (a1_3 : Int) (a1_4 : Int) (a1_5 : Int) (r : Bool) (w : World) (h : redpencilref14_first.f a0_0 a0_1 a0_2 a0_3 a0_4 a0_5 a1_0 a1_1 a1_2 a1_3 a1_4 a1_5 = some r) :
  Calls Tryz.prog 103 #[.agg #[.int .i64 a0_0, .int .i64 a0_1, .int .i64 a0_2, .int .i64 a0_3, .int .i64 a0_4, .int .i32 a0_5], .agg #[.int .i64 a1_0, .int .i64 a1_1, .int .i64 a1_2, .int .i64 a1_3, .int .i64 a1_4, .int .i32 a1_5]] w fun e w' => e = .returned (.bool r) ∧ Below w.heap.size w w' := by
 have hu53 := Tryz.underlying53
 have hu25 := Tryz.underlying25
 have HB := za0.mk (Below.refl w.heap.size w)
 have H : (if a0_4 > a1_4 then (some true) else (if a0_4 = a1_4 then ((redpencilref14_Before.f a1_0 a1_1 a0_0 a0_1).bind fun t263 => (some t263)) else (some false))) = some r := h
 clear h
 by_cases c3 : a0_4 > a1_4
 ·
  rw [if_pos c3] at H
  have c3b0 : decide (a1_4 < a0_4) = true := decide_eq_true c3
  clear c3
  obtain rfl := Option.some.inj H
  go_enter Tryz.func103, Tryz.ntmps103
  go_wp2_with (first | ((with_reducible refine zaq (N := 2) rfl ?_); refine zao ?hg (N := 2) ?hd (cs := #[.int .i64 a0_0, .int .i64 a0_1, .int .i64 a0_2, .int .i64 a0_3, .int .i64 a0_4, .int .i32 a0_5]) (t := 53) ?hr ?_; (case hd => rfl); (case hg => rfl); (case hr => first | (go_simp; done) | (go_simp; rfl)); intro gb261 hg w4 hbox hb; have n0_ := za0.mk (zaa (by repeat (first | (with_reducible first | exact HB.out | apply za2 | apply za1 | apply za3) | exact HB.out)) hb); have n1_ := za0.mk (hbox); have n2_ := za0.mk ((by rw [hg]; exact (za8 (by repeat (first | (with_reducible first | exact HB.out | apply za2 | apply za1 | apply za3) | exact HB.out))) : w.heap.size ≤ gb261)); have n3_ := za0.mk ((by rw [hg]; exact (za8 (by repeat (first | (with_reducible first | exact HB.out | apply za2 | apply za1 | apply za3) | exact HB.out))) : w.heap.size ≤ gb261)); clear HB; have HB := n0_; have BK261 := n1_; have GW261 := n2_; have GE261 := n3_; clear n0_ n1_ n2_ n3_; clear hb hbox hg) | ((with_reducible refine zaq (N := 3) rfl ?_); refine zao ?hg (N := 3) ?hd (cs := #[.int .i64 a1_0, .int .i64 a1_1, .int .i64 a1_2, .int .i64 a1_3, .int .i64 a1_4, .int .i32 a1_5]) (t := 53) ?hr ?_; (case hd => rfl); (case hg => rfl); (case hr => first | (go_simp; done) | (go_simp; rfl)); intro gb262 hg w5 hbox hb; have n0_ := za0.mk (blk_below (g := gb261) (o := .cells #[.int .i64 a0_0, .int .i64 a0_1, .int .i64 a0_2, .int .i64 a0_3, .int .i64 a0_4, .int .i32 a0_5] 53 (0, 0)) (by (with_reducible repeat (first | refine zaj ?_ _ | refine zai ?_ | refine zad ?_ _)); exact BK261.out) hb); have n1_ := za0.mk (zaa (by repeat (first | (with_reducible first | exact HB.out | apply za2 | apply za1 | apply za3 | refine zae ?_ GE261.out) | exact HB.out)) hb); have n2_ := za0.mk (hbox); have n3_ := za0.mk ((by rw [hg]; exact (za8 (by repeat (first | (with_reducible first | exact HB.out | apply za2 | apply za1 | apply za3 | refine zae ?_ GE261.out) | exact HB.out))) : w.heap.size ≤ gb262)); have n4_ := za0.mk ((by rw [hg]; exact (za8 (by repeat (first | (with_reducible first | exact HB.out | apply za2 | apply za1 | apply za3 | refine zae ?_ GE261.out) | exact HB.out))) : w.heap.size ≤ gb262)); have n5_ := za0.mk ((by rw [hg]; exact Nat.ne_of_lt (zan (g := gb261) (o := .cells #[.int .i64 a0_0, .int .i64 a0_1, .int .i64 a0_2, .int .i64 a0_3, .int .i64 a0_4, .int .i32 a0_5] 53 (0, 0)) (by (with_reducible repeat (first | refine zaj ?_ _ | refine zai ?_ | refine zad ?_ _)); exact BK261.out)) : gb261 ≠ gb262)); have n6_ := za0.mk ((by rw [hg]; exact Nat.ne_of_gt (zan (g := gb261) (o := .cells #[.int .i64 a0_0, .int .i64 a0_1, .int .i64 a0_2, .int .i64 a0_3, .int .i64 a0_4, .int .i32 a0_5] 53 (0, 0)) (by (with_reducible repeat (first | refine zaj ?_ _ | refine zai ?_ | refine zad ?_ _)); exact BK261.out)) : gb262 ≠ gb261)); clear BK261; clear HB; have BK261 := n0_; have HB := n1_; have BK262 := n2_; have GW262 := n3_; have GE262 := n4_; have NB261_262 := n5_; have NB262_261 := n6_; clear n0_ n1_ n2_ n3_ n4_ n5_ n6_; clear hb hbox hg; have hnb6 := NB261_262.out; have hnc6 := NB262_261.out; have hcz7_0 : w5.cell? ⟨gb261, 0, none⟩ = some (.int .i64 a0_0) := (za4 BK261.out 0).trans rfl; have hcz7_1 : w5.cell? ⟨gb261, 1, none⟩ = some (.int .i64 a0_1) := (za4 BK261.out 1).trans rfl; have hcz7_2 : w5.cell? ⟨gb261, 2, none⟩ = some (.int .i64 a0_2) := (za4 BK261.out 2).trans rfl; have hcz7_3 : w5.cell? ⟨gb261, 3, none⟩ = some (.int .i64 a0_3) := (za4 BK261.out 3).trans rfl; have hcz7_4 : w5.cell? ⟨gb261, 4, none⟩ = some (.int .i64 a0_4) := (za4 BK261.out 4).trans rfl; have hcz7_5 : w5.cell? ⟨gb261, 5, none⟩ = some (.int .i32 a0_5) := (za4 BK261.out 5).trans rfl; have hfz7_0 := za6 BK261.out 0; have hfz7_1 := za6 BK261.out 1; have hfz7_2 := za6 BK261.out 2; have hfz7_3 := za6 BK261.out 3; have hfz7_4 := za6 BK261.out 4; have hfz7_5 := za6 BK261.out 5; have hcz8_0 : w5.cell? ⟨gb262, 0, none⟩ = some (.int .i64 a1_0) := (za4 BK262.out 0).trans rfl; have hcz8_1 : w5.cell? ⟨gb262, 1, none⟩ = some (.int .i64 a1_1) := (za4 BK262.out 1).trans rfl; have hcz8_2 : w5.cell? ⟨gb262, 2, none⟩ = some (.int .i64 a1_2) := (za4 BK262.out 2).trans rfl; have hcz8_3 : w5.cell? ⟨gb262, 3, none⟩ = some (.int .i64 a1_3) := (za4 BK262.out 3).trans rfl; have hcz8_4 : w5.cell? ⟨gb262, 4, none⟩ = some (.int .i64 a1_4) := (za4 BK262.out 4).trans rfl; have hcz8_5 : w5.cell? ⟨gb262, 5, none⟩ = some (.int .i32 a1_5) := (za4 BK262.out 5).trans rfl; have hfz8_0 := za6 BK262.out 0; have hfz8_1 := za6 BK262.out 1; have hfz8_2 := za6 BK262.out 2; have hfz8_3 := za6 BK262.out 3; have hfz8_4 := za6 BK262.out 4; have hfz8_5 := za6 BK262.out 5))
  go_ret
  exact ⟨by first | rfl | (simp [zac, zab] <;> rfl) | (simp [*, zac, zab] <;> rfl), by repeat (first | (with_reducible first | exact HB.out | apply za2 | apply za1 | apply za3 | refine zae ?_ GE261.out | refine zae ?_ GE262.out) | exact HB.out)⟩
 ·
  rw [if_neg c3] at H
  have c3b0 : decide (a1_4 < a0_4) = false := decide_eq_false c3
  clear c3
  by_cases c9 : a0_4 = a1_4
  ·
   rw [if_pos c9] at H
   have c9b0 : (a0_4 == a1_4) = true := beq_iff_eq.mpr c9
   have c9b1 : (a0_4 != a1_4) = false := bne_eq_false_iff_eq.mpr c9
   clear c9
   replace H := Option.bind_eq_some_iff.mp H
   obtain ⟨t263, A100, H⟩ := H
   replace H : (some t263) = some r := H
   have A10 := za0.mk A100
   clear A100
   obtain rfl := Option.some.inj H
   go_enter Tryz.func103, Tryz.ntmps103
   go_wp2_with (first | ((with_reducible refine zaq (N := 2) rfl ?_); refine zao ?hg (N := 2) ?hd (cs := #[.int .i64 a0_0, .int .i64 a0_1, .int .i64 a0_2, .int .i64 a0_3, .int .i64 a0_4, .int .i32 a0_5]) (t := 53) ?hr ?_; (case hd => rfl); (case hg => rfl); (case hr => first | (go_simp; done) | (go_simp; rfl)); intro gb261 hg w11 hbox hb; have n0_ := za0.mk (zaa (by repeat (first | (with_reducible first | exact HB.out | apply za2 | apply za1 | apply za3) | exact HB.out)) hb); have n1_ := za0.mk (hbox); have n2_ := za0.mk ((by rw [hg]; exact (za8 (by repeat (first | (with_reducible first | exact HB.out | apply za2 | apply za1 | apply za3) | exact HB.out))) : w.heap.size ≤ gb261)); have n3_ := za0.mk ((by rw [hg]; exact (za8 (by repeat (first | (with_reducible first | exact HB.out | apply za2 | apply za1 | apply za3) | exact HB.out))) : w.heap.size ≤ gb261)); clear HB; have HB := n0_; have BK261 := n1_; have GW261 := n2_; have GE261 := n3_; clear n0_ n1_ n2_ n3_; clear hb hbox hg) | ((with_reducible refine zaq (N := 3) rfl ?_); refine zao ?hg (N := 3) ?hd (cs := #[.int .i64 a1_0, .int .i64 a1_1, .int .i64 a1_2, .int .i64 a1_3, .int .i64 a1_4, .int .i32 a1_5]) (t := 53) ?hr ?_; (case hd => rfl); (case hg => rfl); (case hr => first | (go_simp; done) | (go_simp; rfl)); intro gb262 hg w12 hbox hb; have n0_ := za0.mk (blk_below (g := gb261) (o := .cells #[.int .i64 a0_0, .int .i64 a0_1, .int .i64 a0_2, .int .i64 a0_3, .int .i64 a0_4, .int .i32 a0_5] 53 (0, 0)) (by (with_reducible repeat (first | refine zaj ?_ _ | refine zai ?_ | refine zad ?_ _)); exact BK261.out) hb); have n1_ := za0.mk (zaa (by repeat (first | (with_reducible first | exact HB.out | apply za2 | apply za1 | apply za3 | refine zae ?_ GE261.out) | exact HB.out)) hb); have n2_ := za0.mk (hbox); have n3_ := za0.mk ((by rw [hg]; exact (za8 (by repeat (first | (with_reducible first | exact HB.out | apply za2 | apply za1 | apply za3 | refine zae ?_ GE261.out) | exact HB.out))) : w.heap.size ≤ gb262)); have n4_ := za0.mk ((by rw [hg]; exact (za8 (by repeat (first | (with_reducible first | exact HB.out | apply za2 | apply za1 | apply za3 | refine zae ?_ GE261.out) | exact HB.out))) : w.heap.size ≤ gb262)); have n5_ := za0.mk ((by rw [hg]; exact Nat.ne_of_lt (zan (g := gb261) (o := .cells #[.int .i64 a0_0, .int .i64 a0_1, .int .i64 a0_2, .int .i64 a0_3, .int .i64 a0_4, .int .i32 a0_5] 53 (0, 0)) (by (with_reducible repeat (first | refine zaj ?_ _ | refine zai ?_ | refine zad ?_ _)); exact BK261.out)) : gb261 ≠ gb262)); have n6_ := za0.mk ((by rw [hg]; exact Nat.ne_of_gt (zan (g := gb261) (o := .cells #[.int .i64 a0_0, .int .i64 a0_1, .int .i64 a0_2, .int .i64 a0_3, .int .i64 a0_4, .int .i32 a0_5] 53 (0, 0)) (by (with_reducible repeat (first | refine zaj ?_ _ | refine zai ?_ | refine zad ?_ _)); exact BK261.out)) : gb262 ≠ gb261)); clear BK261; clear HB; have BK261 := n0_; have HB := n1_; have BK262 := n2_; have GW262 := n3_; have GE262 := n4_; have NB261_262 := n5_; have NB262_261 := n6_; clear n0_ n1_ n2_ n3_ n4_ n5_ n6_; clear hb hbox hg; have hnb13 := NB261_262.out; have hnc13 := NB262_261.out; have hcz14_0 : w12.cell? ⟨gb261, 0, none⟩ = some (.int .i64 a0_0) := (za4 BK261.out 0).trans rfl; have hcz14_1 : w12.cell? ⟨gb261, 1, none⟩ = some (.int .i64 a0_1) := (za4 BK261.out 1).trans rfl; have hcz14_2 : w12.cell? ⟨gb261, 2, none⟩ = some (.int .i64 a0_2) := (za4 BK261.out 2).trans rfl; have hcz14_3 : w12.cell? ⟨gb261, 3, none⟩ = some (.int .i64 a0_3) := (za4 BK261.out 3).trans rfl; have hcz14_4 : w12.cell? ⟨gb261, 4, none⟩ = some (.int .i64 a0_4) := (za4 BK261.out 4).trans rfl; have hcz14_5 : w12.cell? ⟨gb261, 5, none⟩ = some (.int .i32 a0_5) := (za4 BK261.out 5).trans rfl; have hfz14_0 := za6 BK261.out 0; have hfz14_1 := za6 BK261.out 1; have hfz14_2 := za6 BK261.out 2; have hfz14_3 := za6 BK261.out 3; have hfz14_4 := za6 BK261.out 4; have hfz14_5 := za6 BK261.out 5; have hcz15_0 : w12.cell? ⟨gb262, 0, none⟩ = some (.int .i64 a1_0) := (za4 BK262.out 0).trans rfl; have hcz15_1 : w12.cell? ⟨gb262, 1, none⟩ = some (.int .i64 a1_1) := (za4 BK262.out 1).trans rfl; have hcz15_2 : w12.cell? ⟨gb262, 2, none⟩ = some (.int .i64 a1_2) := (za4 BK262.out 2).trans rfl; have hcz15_3 : w12.cell? ⟨gb262, 3, none⟩ = some (.int .i64 a1_3) := (za4 BK262.out 3).trans rfl; have hcz15_4 : w12.cell? ⟨gb262, 4, none⟩ = some (.int .i64 a1_4) := (za4 BK262.out 4).trans rfl; have hcz15_5 : w12.cell? ⟨gb262, 5, none⟩ = some (.int .i32 a1_5) := (za4 BK262.out 5).trans rfl; have hfz15_0 := za6 BK262.out 0; have hfz15_1 := za6 BK262.out 1; have hfz15_2 := za6 BK262.out 2; have hfz15_3 := za6 BK262.out 3; have hfz15_4 := za6 BK262.out 4; have hfz15_5 := za6 BK262.out 5) | (go_at_call 58; (with_reducible refine (redpencilref14_Before.calls a1_0 a1_1 a0_0 a0_1 t263 _ A10.out).mono ?_); rintro e w16 ⟨rfl, hb⟩; have n0_ := za0.mk (blk_below (g := gb261) (o := .cells #[.int .i64 a0_0, .int .i64 a0_1, .int .i64 a0_2, .int .i64 a0_3, .int .i64 a0_4, .int .i32 a0_5] 53 (0, 0)) (by (with_reducible repeat (first | refine zaj ?_ _ | refine zai ?_ | refine zad ?_ _)); exact BK261.out) hb); have n1_ := za0.mk (blk_below (g := gb262) (o := .cells #[.int .i64 a1_0, .int .i64 a1_1, .int .i64 a1_2, .int .i64 a1_3, .int .i64 a1_4, .int .i32 a1_5] 53 (0, 0)) (by (with_reducible repeat (first | refine zaj ?_ _ | refine zai ?_ | refine zad ?_ _)); exact BK262.out) hb); have n2_ := za0.mk (zaa (by repeat (first | (with_reducible first | exact HB.out | apply za2 | apply za1 | apply za3 | refine zae ?_ GE261.out | refine zae ?_ GE262.out) | exact HB.out)) hb); clear BK261; clear BK262; clear HB; have BK261 := n0_; have BK262 := n1_; have HB := n2_; clear n0_ n1_ n2_; (try clear hb); (try clear hb2); (try clear hk); (try clear hi)))
   go_ret
   exact ⟨by first | rfl | (simp [zac, zab] <;> rfl) | (simp [*, zac, zab] <;> rfl), by repeat (first | (with_reducible first | exact HB.out | apply za2 | apply za1 | apply za3 | refine zae ?_ GE261.out | refine zae ?_ GE262.out) | exact HB.out)⟩
  ·
   rw [if_neg c9] at H
   have c9b0 : (a0_4 == a1_4) = false := beq_eq_false_iff_ne.mpr c9
   have c9b1 : (a0_4 != a1_4) = true := bne_iff_ne.mpr c9
   obtain rfl := Option.some.inj H
   go_enter Tryz.func103, Tryz.ntmps103
   go_wp2_with (first | ((with_reducible refine zaq (N := 2) rfl ?_); refine zao ?hg (N := 2) ?hd (cs := #[.int .i64 a0_0, .int .i64 a0_1, .int .i64 a0_2, .int .i64 a0_3, .int .i64 a0_4, .int .i32 a0_5]) (t := 53) ?hr ?_; (case hd => rfl); (case hg => rfl); (case hr => first | (go_simp; done) | (go_simp; rfl)); intro gb261 hg w17 hbox hb; have n0_ := za0.mk (zaa (by repeat (first | (with_reducible first | exact HB.out | apply za2 | apply za1 | apply za3) | exact HB.out)) hb); have n1_ := za0.mk (hbox); have n2_ := za0.mk ((by rw [hg]; exact (za8 (by repeat (first | (with_reducible first | exact HB.out | apply za2 | apply za1 | apply za3) | exact HB.out))) : w.heap.size ≤ gb261)); have n3_ := za0.mk ((by rw [hg]; exact (za8 (by repeat (first | (with_reducible first | exact HB.out | apply za2 | apply za1 | apply za3) | exact HB.out))) : w.heap.size ≤ gb261)); clear HB; have HB := n0_; have BK261 := n1_; have GW261 := n2_; have GE261 := n3_; clear n0_ n1_ n2_ n3_; clear hb hbox hg) | ((with_reducible refine zaq (N := 3) rfl ?_); refine zao ?hg (N := 3) ?hd (cs := #[.int .i64 a1_0, .int .i64 a1_1, .int .i64 a1_2, .int .i64 a1_3, .int .i64 a1_4, .int .i32 a1_5]) (t := 53) ?hr ?_; (case hd => rfl); (case hg => rfl); (case hr => first | (go_simp; done) | (go_simp; rfl)); intro gb262 hg w18 hbox hb; have n0_ := za0.mk (blk_below (g := gb261) (o := .cells #[.int .i64 a0_0, .int .i64 a0_1, .int .i64 a0_2, .int .i64 a0_3, .int .i64 a0_4, .int .i32 a0_5] 53 (0, 0)) (by (with_reducible repeat (first | refine zaj ?_ _ | refine zai ?_ | refine zad ?_ _)); exact BK261.out) hb); have n1_ := za0.mk (zaa (by repeat (first | (with_reducible first | exact HB.out | apply za2 | apply za1 | apply za3 | refine zae ?_ GE261.out) | exact HB.out)) hb); have n2_ := za0.mk (hbox); have n3_ := za0.mk ((by rw [hg]; exact (za8 (by repeat (first | (with_reducible first | exact HB.out | apply za2 | apply za1 | apply za3 | refine zae ?_ GE261.out) | exact HB.out))) : w.heap.size ≤ gb262)); have n4_ := za0.mk ((by rw [hg]; exact (za8 (by repeat (first | (with_reducible first | exact HB.out | apply za2 | apply za1 | apply za3 | refine zae ?_ GE261.out) | exact HB.out))) : w.heap.size ≤ gb262)); have n5_ := za0.mk ((by rw [hg]; exact Nat.ne_of_lt (zan (g := gb261) (o := .cells #[.int .i64 a0_0, .int .i64 a0_1, .int .i64 a0_2, .int .i64 a0_3, .int .i64 a0_4, .int .i32 a0_5] 53 (0, 0)) (by (with_reducible repeat (first | refine zaj ?_ _ | refine zai ?_ | refine zad ?_ _)); exact BK261.out)) : gb261 ≠ gb262)); have n6_ := za0.mk ((by rw [hg]; exact Nat.ne_of_gt (zan (g := gb261) (o := .cells #[.int .i64 a0_0, .int .i64 a0_1, .int .i64 a0_2, .int .i64 a0_3, .int .i64 a0_4, .int .i32 a0_5] 53 (0, 0)) (by (with_reducible repeat (first | refine zaj ?_ _ | refine zai ?_ | refine zad ?_ _)); exact BK261.out)) : gb262 ≠ gb261)); clear BK261; clear HB; have BK261 := n0_; have HB := n1_; have BK262 := n2_; have GW262 := n3_; have GE262 := n4_; have NB261_262 := n5_; have NB262_261 := n6_; clear n0_ n1_ n2_ n3_ n4_ n5_ n6_; clear hb hbox hg; have hnb19 := NB261_262.out; have hnc19 := NB262_261.out; have hcz20_0 : w18.cell? ⟨gb261, 0, none⟩ = some (.int .i64 a0_0) := (za4 BK261.out 0).trans rfl; have hcz20_1 : w18.cell? ⟨gb261, 1, none⟩ = some (.int .i64 a0_1) := (za4 BK261.out 1).trans rfl; have hcz20_2 : w18.cell? ⟨gb261, 2, none⟩ = some (.int .i64 a0_2) := (za4 BK261.out 2).trans rfl; have hcz20_3 : w18.cell? ⟨gb261, 3, none⟩ = some (.int .i64 a0_3) := (za4 BK261.out 3).trans rfl; have hcz20_4 : w18.cell? ⟨gb261, 4, none⟩ = some (.int .i64 a0_4) := (za4 BK261.out 4).trans rfl; have hcz20_5 : w18.cell? ⟨gb261, 5, none⟩ = some (.int .i32 a0_5) := (za4 BK261.out 5).trans rfl; have hfz20_0 := za6 BK261.out 0; have hfz20_1 := za6 BK261.out 1; have hfz20_2 := za6 BK261.out 2; have hfz20_3 := za6 BK261.out 3; have hfz20_4 := za6 BK261.out 4; have hfz20_5 := za6 BK261.out 5; have hcz21_0 : w18.cell? ⟨gb262, 0, none⟩ = some (.int .i64 a1_0) := (za4 BK262.out 0).trans rfl; have hcz21_1 : w18.cell? ⟨gb262, 1, none⟩ = some (.int .i64 a1_1) := (za4 BK262.out 1).trans rfl; have hcz21_2 : w18.cell? ⟨gb262, 2, none⟩ = some (.int .i64 a1_2) := (za4 BK262.out 2).trans rfl; have hcz21_3 : w18.cell? ⟨gb262, 3, none⟩ = some (.int .i64 a1_3) := (za4 BK262.out 3).trans rfl; have hcz21_4 : w18.cell? ⟨gb262, 4, none⟩ = some (.int .i64 a1_4) := (za4 BK262.out 4).trans rfl; have hcz21_5 : w18.cell? ⟨gb262, 5, none⟩ = some (.int .i32 a1_5) := (za4 BK262.out 5).trans rfl; have hfz21_0 := za6 BK262.out 0; have hfz21_1 := za6 BK262.out 1; have hfz21_2 := za6 BK262.out 2; have hfz21_3 := za6 BK262.out 3; have hfz21_4 := za6 BK262.out 4; have hfz21_5 := za6 BK262.out 5))
   go_ret
   exact ⟨by first | rfl | (simp [zac, zab] <;> rfl) | (simp [*, zac, zab] <;> rfl), by repeat (first | (with_reducible first | exact HB.out | apply za2 | apply za1 | apply za3 | refine zae ?_ GE261.out | refine zae ?_ GE262.out) | exact HB.out)⟩
end
end Go.Proofs.YtmbndijbpgobeaaGreat.PWalk
end
section
namespace Go.Proofs.YtmbndijbpgobeaaGreat.PWalk
open Go.RowKit Go.Proofs.YtmbndijbpgobeaaGreatW.PrintWords Go.Proofs.YtmbndijbpgobeaaGreatW.PrintLast Go.Proofs.YtmbndijbpgobeaaGreatW.PrintMore
set_option linter.unusedVariables false
set_option linter.unusedSimpArgs false
open Go.Shelf
attribute [local go_sem] Oper.semAt_some
section
def cutN (x : Node) : List Node → Nat
 | [] => 0
 | y :: r => if nodeLt y x then cutN x r + 1 else 0
theorem insB_cut (x : Node) : ∀ l, insB x l = l.take (cutN x l) ++ x :: l.drop (cutN x l)
 | [] => rfl
 | y :: r => by
  rw [insB, cutN]
  split
  ·
   rw [List.take_succ_cons, List.drop_succ_cons, List.cons_append, ← insB_cut x r]
  ·
   rfl
theorem cutN_is {x : Node} : ∀ {l : List Node} {k : Nat}, k ≤ l.length → (∀ j y, j < k → l[j]? = some y → nodeLt y x = true) → (∀ y, l[k]? = some y → nodeLt y x = false) → cutN x l = k
 | [], k, hk, _, _ => by simp at hk; subst hk; rfl
 | y :: r, 0, _, _, h => by rw [cutN, if_neg (by rw [h y rfl]; simp)]
 | y :: r, k + 1, hk, h1, h2 => by
  rw [cutN, if_pos (h1 0 y (by omega) rfl), cutN_is (k := k) (by simpa using hk) (fun j z hj hz => h1 (j + 1) z (by omega) (by simpa using hz)) (fun z hz => h2 z (by simpa using hz))]
theorem kids_take_succ {l : List Node} {d : Dot} {i : Nat} {x : Node} (h : l[i]? = some x) : kids (l.take (i + 1)) d = if x.f1 = d then insB x (kids (l.take i) d) else kids (l.take i) d := by
 unfold kids
 rw [List.take_succ_eq_append_getElem (List.getElem?_eq_some_iff.1 h).1, (List.getElem?_eq_some_iff.1 h).2, List.filter_append, List.foldl_append]
 by_cases e : x.f1 = d <;> simp [e]
theorem kids_le (l : List Node) (d : Dot) : (kids l d).length ≤ l.length := by
 rw [(kids_perm l d).length_eq]; exact List.length_filter_le _ _
theorem jfirst_is (a b : Node) : redpencilref14_first.f a.f0.f0 a.f0.f1 a.f1.f0 a.f1.f1 a.f2 a.f3 b.f0.f0 b.f0.f1 b.f1.f0 b.f1.f1 b.f2 b.f3 = some (nodeLt a b) := by
 unfold redpencilref14_first.f nodeLt
 by_cases h : a.f2 = b.f2
 ·
  rw [if_neg (by omega), if_pos h, if_pos h, jbefore_is]
  rfl
 ·
  by_cases h2 : a.f2 > b.f2
  ·
   simp [h, h2]
  ·
   simp [h, h2]
def redpencilref14_Children.f (l0 : List Node) (a1_0 a1_1 : Int) : Option (List Node) := if l0.length ≤ 400000 then some (kids l0 ⟨a1_0, a1_1⟩) else none
attribute [local go_sem high] eqA25
def ch14aInv (W0 : World) (ad : Addr) (Ao : Option Addr) (n c0 no co i' k : Nat) (x y : Node) (lt b : Bool) (z1 z2 z3 z4 z8 z9 z10 z11 z12 z13 z14 z15 z16 z17 z18 z19 z20 z21 z22 z23 z24 z25 z26 z27 z28 z29 z30 z31 z32 z33 z34 z35 z36 z37 z38 z39 z40 z41 z42 z43 z44 z45 z46 z47 z48 z49 z50 z51 z52 z53 z54 : Value) (L : Array Bool) (ac : Act) (V : World) : Prop := ∃ (l0 l1 l2 l3 l4 l5 l6 l7 l8 l9 l10 l11 l12 l13 l14 : Bool), L = #[l0, l1, l2, l3, l4, l5, l6, l7, l8, l9, l10, l11, l12, l13, l14] ∧ ac = { tmps := #[.slice (some ad) n c0, z1, z2, z3, z4, .slice Ao no co, .int .i64 (i' : Int), .int .i64 (k : Int), z8, z9, z10, z11, z12, z13, z14, z15, z16, z17, z18, z19, z20, z21, selv l0 (.int .i64 (k : Int)) (z22), selv l1 (.slice Ao no co) (z23), selv l2 (.int .i64 (no : Int)) (z24), selv l3 (.bool lt) (z25), selv l4 (.bool lt) (z26), selv l5 (selv lt (.slice Ao no co) undef) (z27), selv l6 (selv lt (.int .i64 (k : Int)) undef) (z28), selv l7 (selv lt (.pointer (Ao.map fun a => a.add (k * 6))) undef) (z29), selv l8 (selv lt (vNode y) undef) (z30), selv l9 (selv lt (.slice (some ad) n c0) undef) (z31), selv l10 (selv lt (.int .i64 (i' : Int)) undef) (z32), selv l11 (selv lt (.pointer (some (ad.add (i' * 6)))) undef) (z33), selv l12 (selv lt (vNode x) undef) (z34), selv l13 (selv lt (.bool b) undef) (z35), selv l14 (.bool (lt && b)) (z36), z37, z38, z39, z40, z41, z42, z43, z44, z45, z46, z47, z48, z49, z50, z51, z52, z53, z54], defers := [] } ∧ za0 (Below W0.heap.size W0 V)
def ch14bInv (W0 : World) (ad : Addr) (Ao Ac : Option Addr) (n c0 no co i' k m3 q3 : Nat) (x : Node) (rest : List Node) (z1 z2 z3 z4 z8 z9 z10 z11 z12 z13 z14 z15 z16 z17 z18 z19 z20 z21 z22 z23 z24 z25 z26 z27 z28 z29 z30 z31 z32 z33 z34 z35 z36 z37 z38 z39 z40 z41 z42 z43 z44 z45 z46 z47 z48 z49 z50 z51 z52 z53 z54 : Value) (L : Array Bool) (ac : Act) (V : World) : Prop := ∃ (l0 l1 l2 l3 l4 l5 l6 l7 l8 l9 : Bool) (g : Nat) (v2 : Value), L = #[l0, l1, l2, l3, l4, l5, l6, l7, l8, l9] ∧ ac = { tmps := #[.slice (some ad) n c0, z1, z2, z3, z4, .slice Ao no co, .int .i64 (i' : Int), .int .i64 (k : Int), selv l9 (v2) (z8), z9, z10, z11, z12, z13, z14, z15, z16, z17, z18, z19, z20, z21, z22, z23, z24, z25, z26, z27, z28, z29, z30, z31, z32, z33, z34, z35, z36, z37, z38, selv l0 (.slice (some ad) n c0) (z39), selv l1 (.int .i64 (i' : Int)) (z40), selv l2 (.pointer (some (ad.add (i' * 6)))) (z41), selv l3 (vNode x) (z42), selv l4 (.slice (some ⟨g, 0, none⟩) 1 1) (z43), selv l5 (.slice Ao no co) (z44), selv l6 (.int .i64 (k : Int)) (z45), selv l7 (.slice Ac m3 q3) (z46), selv l8 (v2) (z47), z48, z49, z50, z51, z52, z53, z54], defers := [] } ∧ za0 (JP W0 x rest l4 l8 l9 g v2 V)
set_option maxHeartbeats 4000000 in
set_option maxRecDepth 100000 in
theorem redpencilref14_Children.calls (A0 : Option Addr) (c0 : Nat) (l0 : List Node) (a1_0 a1_1 : Int) (r : List Node) (w : World) (hr0 : Kd.C k53 w A0 l0.length l0) (hc0 : l0.length ≤ c0) (h : redpencilref14_Children.f l0 a1_0 a1_1 = some r) :
  Calls Tryz.prog 86 #[.slice A0 l0.length c0, .agg #[.int .i64 a1_0, .int .i64 a1_1]] w fun e w' => ∃ v0_ : Value, e = .returned v0_ ∧ Kd.R k53 53 w' w.heap.size (fun _ => True) v0_ r ∧ Below w.heap.size w w' := by
 obtain ⟨d, hd⟩ : ∃ d : Dot, d = ⟨a1_0, a1_1⟩ := ⟨_, rfl⟩
 unfold redpencilref14_Children.f at h
 rw [← hd] at h
 rw [show a1_0 = d.f0 by rw [hd], show a1_1 = d.f1 by rw [hd]]
 clear hd
 by_cases hl : l0.length ≤ 400000
 rotate_left
 ·
  rw [if_neg hl] at h; cases h
 rw [if_pos hl] at h
 obtain rfl := Option.some.inj h
 have HR := za0.mk hr0
 have HL := za0.mk hl
 have HB0 := za0.mk (za2 (Below.refl _ w) (dotC d))
 have HK0 := za0.mk (zal w (dotC d))
 have hu := Tryz.underlying53
 have hu2 := Tryz.underlying25
 clear h hr0 hc0 hl
 obtain ⟨n, Hn⟩ : ∃ n, za0 (l0.length = n) := ⟨_, ⟨rfl⟩⟩
 rw [Hn.out] at HR HL ⊢
 obtain ⟨B, HBe⟩ : ∃ B, za0 (w.heap.size = B) := ⟨_, ⟨rfl⟩⟩
 rw [HBe.out] at HK0
 go_enter Tryz.func86, Tryz.ntmps86
 go_wp2_with fail
 rw [HBe.out]
 generalize w.alloc (dotC d) = W1 at *
 go_loopw [5, 6] (fun o i wr => ∃ (i' : Nat) (Ao : Option Addr) (no co : Nat), i' ≤ n ∧ i = .int .i64 i' ∧ o = .slice Ao no co ∧ za0 (RN wr w.heap.size (.slice Ao no co) (kids (l0.take i') d)) ∧ za0 (wr.heap[B]? = some (dotC d)) ∧ za0 (Below w.heap.size w wr)) (fun _ i _ => n - (intOf i).toNat)
 case atStart => exact ⟨0, none, 0, 0, Nat.zero_le _, rfl, rfl, ⟨Kd.R_nil _ _ _ _ _⟩, HK0, HB0⟩
 case round =>
  obtain ⟨i', Ao, no, co, hi', rfl, rfl, HO, HK, HB⟩ := hrel
  clear HK0 HB0
  by_cases hlt : i' < n
  ·
   obtain ⟨x, Hx⟩ : ∃ x, za0 (l0[i']? = some x) := ⟨_, ⟨List.getElem?_eq_getElem (by rw [Hn.out]; exact hlt)⟩⟩
   obtain ⟨ad, e, g0, g1, g2, g3, g4, g5⟩ := node_at HR.out HB.out i' x Hx.out
   subst e
   obtain ⟨k0, k1⟩ := dot_cells HK.out
   have HST : za0 (kids (l0.take (i' + 1)) d = if x.f1 = d then insB x (kids (l0.take i') d) else kids (l0.take i') d) := ⟨kids_take_succ Hx.out⟩
   have HOC := za0.mk (RN.C HO.out)
   have HNO : za0 (no ≤ 400000) := ⟨by have h1 := HOC.out.1; have h2 := kids_le (l0.take i') d; rw [List.length_take] at h2; have := HL.out; omega⟩
   have hltn : i' < n ∧ n ≤ 400000 := ⟨hlt, HL.out⟩
   by_cases hxd : x.f1 = d
   ·
    have hne : (x.f1.f0 == d.f0 && (x.f1.f1 == d.f1)) = true := by rw [hxd]; simp
    have HXD := za0.mk hxd
    go_wp2
    go_quiet (fail)
    have hdq := (Gr.drawn (w := wr) ⟨nq, rfl⟩).below
    go_wp2
    clear hxd hne k0 k1 g0 g1 g2 g3 g4 g5
    have HHB := za0.mk (za5 HB.out hdq)
    have HHO := za0.mk (RN.below' HO.out hdq)
    have HHK := za0.mk (za7 HK.out hdq)
    rw [if_pos HXD.out] at HST
    have HXI : za0 (i' < n ∧ n ≤ 400000) := ⟨hltn⟩
    obtain ⟨out, Hout⟩ : ∃ out, za0 (kids (l0.take i') d = out) := ⟨_, ⟨rfl⟩⟩
    rw [Hout.out] at HHO HOC HST
    clear hdq HO HB HK
    generalize wr.drewN nq = W2 at *
    go_loopw [7] (fun j wr => ∃ k : Nat, k ≤ no ∧ j = .int .i64 k ∧ za0 (∀ q y, q < k → out[q]? = some y → nodeLt y x = true) ∧ za0 (Below W2.heap.size W2 wr)) (fun j _ => no - (intOf j).toNat)
    case atStart => exact ⟨0, Nat.zero_le _, rfl, ⟨fun q y hq => absurd hq (Nat.not_lt_zero _)⟩, ⟨Below.refl _ _⟩⟩
    case round =>
     obtain ⟨k, hk, rfl, HPRE, HB2⟩ := hrel
     have HKN : za0 (k ≤ no ∧ no ≤ 400000) := ⟨hk, HNO.out⟩
     obtain ⟨lt, HLT⟩ : ∃ b, za0 (decide (k < no) = b) := ⟨_, ⟨rfl⟩⟩
     obtain ⟨y, HY⟩ : ∃ y, za0 (lt = true → out[k]? = some y) := by
      by_cases h : k < no
      ·
       exact ⟨out[k]'(by rw [HOC.out.1]; exact h), ⟨fun _ => List.getElem?_eq_getElem _⟩⟩
      ·
       refine ⟨x, ⟨fun h2 => ?_⟩⟩
       rw [← HLT.out] at h2
       exact absurd (of_decide_eq_true h2) (by omega)
     obtain ⟨b, Hb⟩ : ∃ b, za0 (nodeLt y x = b) := ⟨_, ⟨rfl⟩⟩
     have HOW := za0.mk (RN.C HHO.out)
     go_wp2_with fail
     refine AnyOrder.wp_region (by kernel_rfl) (ch14aInv wr.drew ad Ao n c0 no co i' k x y lt b _ _ _ _ _ _ _ _ _ _ _ _ _ _ _ _ _ _ _ _ _ _ _ _ _ _ _ _ _ _ _ _ _ _ _ _ _ _ _ _ _ _ _ _ _ _ _ _ _ _ _) ⟨false, false, false, false, false, false, false, false, false, false, false, false, false, false, false, rfl, rfl, ⟨Below.refl _ _⟩⟩ ?step ?last
     case step =>
      rintro L ac V i ⟨l0, l1, l2, l3, l4, l5, l6, l7, l8, l9, l10, l11, l12, l13, l14, rfl, rfl, HF⟩ hi K hK
      rcases AnyOrder.up hi [0, 1, 2, 4, 3, 5, 6, 9, 10, 7, 8, 11, 12, 13, 14] rfl with rfl | rfl | rfl | rfl | rfl | rfl | rfl | rfl | rfl | rfl | rfl | rfl | rfl | rfl | rfl
      all_goals
       replace hi := AnyOrder.first hi rfl
       repeat (obtain ⟨ha, hi⟩ := hi; first | obtain rfl := ha | clear ha)
       clear hi
       try simp only [sel_true, selv_true] at hK ⊢
      iterate 4
       ·
        refine AnyOrder.wpOp_go rfl (by rfl) ?_
        go_wp2_with fail
        exact ⟨_, _, _, _, _, _, _, _, _, _, _, _, _, _, _, rfl, rfl, HF⟩
      ·
       refine AnyOrder.wpOp_go rfl (by rfl) ?_
       go_wp2_with fail
       rw [HLT.out]
       exact ⟨_, _, _, _, _, _, _, _, _, _, _, _, _, _, _, rfl, rfl, HF⟩
      iterate 4
       ·
        cases lt
        ·
         refine AnyOrder.wpOp_out rfl (by rfl) ?_
         exact hK _ _ ⟨_, _, _, _, _, _, _, _, _, _, _, _, _, _, _, rfl, rfl, HF⟩
        ·
         refine AnyOrder.wpOp_go rfl (by rfl) ?_
         go_wp2_with fail
         exact ⟨_, _, _, _, _, _, _, _, _, _, _, _, _, _, _, rfl, rfl, HF⟩
      ·
       cases lt
       ·
        refine AnyOrder.wpOp_out rfl (by rfl) ?_
        exact hK _ _ ⟨_, _, _, _, _, _, _, _, _, _, _, _, _, _, _, rfl, rfl, HF⟩
       ·
        obtain ⟨ad', e, q0, q1, q2, q3, q4, q5⟩ := node_at HOW.out.2.2 (za5 HB2.out (za5 (za3 (Below.refl _ wr)) HF.out)) k y (HY.out rfl)
        subst e
        have hkk := HKN.out
        have hlt := of_decide_eq_true HLT.out
        clear q0 q1 q2 q3 q4 q5
        refine AnyOrder.wpOp_go rfl (by rfl) ?_
        go_wp2_with fail
        exact ⟨_, _, _, _, _, _, _, _, _, _, _, _, _, _, _, rfl, rfl, HF⟩
      ·
       cases lt
       ·
        refine AnyOrder.wpOp_out rfl (by rfl) ?_
        exact hK _ _ ⟨_, _, _, _, _, _, _, _, _, _, _, _, _, _, _, rfl, rfl, HF⟩
       ·
        obtain ⟨ad', e, q0, q1, q2, q3, q4, q5⟩ := node_at HOW.out.2.2 (za5 HB2.out (za5 (za3 (Below.refl _ wr)) HF.out)) k y (HY.out rfl)
        subst e
        refine AnyOrder.wpOp_go rfl (by rfl) ?_
        go_wp2_with fail
        exact ⟨_, _, _, _, _, _, _, _, _, _, _, _, _, _, _, rfl, rfl, HF⟩
      ·
       cases lt
       ·
        refine AnyOrder.wpOp_out rfl (by rfl) ?_
        exact hK _ _ ⟨_, _, _, _, _, _, _, _, _, _, _, _, _, _, _, rfl, rfl, HF⟩
       ·
        have hxi := HXI.out
        refine AnyOrder.wpOp_go rfl (by rfl) ?_
        go_wp2_with fail
        exact ⟨_, _, _, _, _, _, _, _, _, _, _, _, _, _, _, rfl, rfl, HF⟩
      ·
       cases lt
       ·
        refine AnyOrder.wpOp_out rfl (by rfl) ?_
        exact hK _ _ ⟨_, _, _, _, _, _, _, _, _, _, _, _, _, _, _, rfl, rfl, HF⟩
       ·
        obtain ⟨ad', e, q0, q1, q2, q3, q4, q5⟩ := node_at HR.out (za5 HHB.out (za5 HB2.out (za5 (za3 (Below.refl _ wr)) HF.out))) i' x Hx.out
        cases e
        refine AnyOrder.wpOp_go rfl (by rfl) ?_
        go_wp2_with fail
        exact ⟨_, _, _, _, _, _, _, _, _, _, _, _, _, _, _, rfl, rfl, HF⟩
      ·
       cases lt
       ·
        refine AnyOrder.wpOp_out rfl (by rfl) ?_
        exact hK _ _ ⟨_, _, _, _, _, _, _, _, _, _, _, _, _, _, _, rfl, rfl, HF⟩
       ·
        refine AnyOrder.wpOp_go rfl (by rfl) ?_
        go_wp2_with fail
        refine (redpencilref14_first.calls _ _ _ _ _ _ _ _ _ _ _ _ b V (by rw [jfirst_is, Hb.out])).mono ?_
        rintro e V' ⟨rfl, hb⟩
        exact hK _ _ ⟨_, _, _, _, _, _, _, _, _, _, _, _, _, _, _, rfl, rfl, ⟨za5 HF.out hb⟩⟩
      ·
       cases lt
       ·
        refine AnyOrder.wpOp_go rfl (by rfl) ?_
        go_wp2_with fail
        exact ⟨_, _, _, _, _, _, _, _, _, _, _, _, _, _, _, rfl, rfl, HF⟩
       ·
        refine AnyOrder.wpOp_go rfl (by rfl) ?_
        go_wp2_with fail
        exact ⟨_, _, _, _, _, _, _, _, _, _, _, _, _, _, _, rfl, rfl, HF⟩
     case last =>
      rintro L ac V ⟨l0, l1, l2, l3, l4, l5, l6, l7, l8, l9, l10, l11, l12, l13, l14, rfl, rfl, HF⟩ hr
      obtain ⟨rfl, rfl, rfl, rfl, rfl, rfl, rfl, rfl, rfl, rfl, rfl, rfl, rfl, rfl, rfl, -⟩ := AnyOrder.alls rfl (by kernel_rfl) hr
      clear hr
      simp only [sel_true, selv_true]
      have HB2 := za0.mk (za5 HB2.out (za5 (za3 (Below.refl _ wr)) HF.out))
      clear HF
      cases hs : (lt && b) with
      | true =>
       rw [Bool.and_eq_true] at hs
       obtain ⟨h1, h2⟩ := hs
       have HPRE : za0 (∀ q z, q < k + 1 → out[q]? = some z → nodeLt z x = true) := ⟨fun q z hq hz => by
        rcases Nat.lt_succ_iff_lt_or_eq.1 hq with h | h
        ·
         exact HPRE.out q z h hz
        ·
         subst h
         rw [HY.out h1] at hz
         cases hz
         rw [Hb.out, h2]⟩
       have hkn : k < no := by
        have := HLT.out
        rw [h1] at this
        exact of_decide_eq_true this
       clear h1 h2
       have hkk := HKN.out
       go_wp2_with fail
       go_roundw
       case rel => exact ⟨k + 1, by omega, by go_num, HPRE, HB2⟩
       case measure => simp [intOf]; omega
      | false =>
       have HINS : za0 (insB x out = out.take k ++ [x] ++ out.drop k) := ⟨by
        rw [insB_cut, cutN_is (k := k) (by rw [HOC.out.1]; exact HKN.out.1) HPRE.out fun z hz => ?_, List.append_assoc]
        ·
         rfl
        ·
         have h1 : lt = true := by
          rw [← HLT.out]
          have := (List.getElem?_eq_some_iff.1 hz).1
          exact decide_eq_true (by rw [HOC.out.1] at this; exact this)
         rw [HY.out h1] at hz
         cases hz
         rw [h1] at hs
         rw [Hb.out]
         exact hs⟩
       clear hs
       generalize V = V2 at *
       have HHB := za0.mk (za5 HHB.out HB2.out)
       have HHO := za0.mk (RN.below' HHO.out HB2.out)
       have HHK := za0.mk (za7 HHK.out HB2.out)
       have HCV := za0.mk (RN.C HHO.out)
       obtain ⟨m3, Hm3⟩ : ∃ m3, za0 (no - k = m3) := ⟨_, ⟨rfl⟩⟩
       obtain ⟨q3, Hq3⟩ : ∃ q3, za0 (co - k = q3) := ⟨_, ⟨rfl⟩⟩
       obtain ⟨Ac, HAc⟩ : ∃ Ac, za0 ((if co = k then Ao else Ao.map (·.add (k * 6))) = Ac) := ⟨_, ⟨rfl⟩⟩
       have HCD : za0 (Kd.C k53 V2 Ac m3 (out.drop k)) := ⟨by rw [← HAc.out, ← Hm3.out]; exact C_from HCV.out.2.2 HCV.out.1 HKN.out.1 HCV.out.2.1⟩
       have HCF : za0 (∀ W, (Instr.sliceAt 23 (.slice Ao no co) (some (.int .i64 (k : Int))) none none).run Tryz.prog W = .ok (.slice Ac m3 q3) W) := ⟨fun W => by rw [← HAc.out, ← Hm3.out, ← Hq3.out]; exact cut_fromT Tryz.underlying23 HKN.out.1 W⟩
       have HM3 : za0 (m3 ≤ 400000) := ⟨by have := Hm3.out; have := HKN.out; omega⟩
       go_wp2_with fail
       refine AnyOrder.wp_region (by kernel_rfl) (ch14bInv V2.drew ad Ao Ac n c0 no co i' k m3 q3 x (out.drop k) _ _ _ _ _ _ _ _ _ _ _ _ _ _ _ _ _ _ _ _ _ _ _ _ _ _ _ _ _ _ _ _ _ _ _ _ _ _ _ _ _ _ _ _ _ _ _ _ _ _ _) ⟨false, false, false, false, false, false, false, false, false, false, 0, undef, rfl, rfl, ⟨⟨fun h => (by cases h), fun h => (by cases h), Below.refl _ _, fun h _ => (by cases h), fun h => (by cases h)⟩⟩⟩ ?step ?last
       case step =>
        rintro L ac V i ⟨l0, l1, l2, l3, l4, l5, l6, l7, l8, l9, g, v2, rfl, rfl, HF⟩ hi K hK
        rcases AnyOrder.up hi [0, 1, 5, 6, 2, 3, 4, 7, 8, 9] rfl with rfl | rfl | rfl | rfl | rfl | rfl | rfl | rfl | rfl | rfl
        all_goals
         replace hi := AnyOrder.first hi rfl
         repeat (obtain ⟨ha, hi⟩ := hi; first | obtain rfl := ha | clear ha)
         clear hi
         try simp only [sel_true, selv_true] at hK ⊢
        iterate 4
         ·
          refine AnyOrder.wpOp_go rfl (by rfl) ?_
          go_wp2_with fail
          exact ⟨_, _, _, _, _, _, _, _, _, _, g, v2, rfl, rfl, HF⟩
        ·
         have hxi := HXI.out
         refine AnyOrder.wpOp_go rfl (by rfl) ?_
         go_wp2_with fail
         exact ⟨_, _, _, _, _, _, _, _, _, _, g, v2, rfl, rfl, HF⟩
        ·
         obtain ⟨ad', e, q0, q1, q2, q3, q4, q5⟩ := node_at HR.out (za5 HHB.out (za5 (za3 (Below.refl _ V2)) HF.out.below)) i' x Hx.out
         cases e
         refine AnyOrder.wpOp_go rfl (by rfl) ?_
         go_wp2_with fail
         exact ⟨_, _, _, _, _, _, _, _, _, _, g, v2, rfl, rfl, HF⟩
        ·
         obtain rfl : l8 = false := by cases l8 with | false => rfl | true => cases HF.out.ord5 rfl
         obtain rfl : l9 = false := by cases l9 with | false => rfl | true => cases HF.out.ord6 rfl
         (try simp only [selv_false] at hK ⊢)
         refine AnyOrder.wpOp_go rfl (by rfl) ?_
         go_wp2_with fail
         exact ⟨_, _, _, _, _, _, _, _, _, _, V.heap.size, v2, rfl, rfl, ⟨⟨fun h => (by cases h), fun h => (by cases h), za5 HF.out.below (za2 (Below.refl _ V) (boxN x)), fun _ _ => lit_nodes V V2.drew.heap.size HF.out.below.size [x] 1 rfl (by decide) (by decide) #[.int .i64 x.f0.f0, .int .i64 x.f0.f1, .int .i64 x.f1.f0, .int .i64 x.f1.f1, .int .i64 x.f2, .int .i32 x.f3] rfl, fun h => (by cases h)⟩⟩⟩
        ·
         refine AnyOrder.wpOp_go rfl (by rfl) ?_
         refine op_slice 23 (.tmp 44) (some (.tmp 45)) none rfl rfl rfl rfl (HCF.out V) ?_
         exact hK _ _ ⟨_, _, _, _, _, _, _, _, _, _, g, v2, rfl, rfl, HF⟩
        ·
         obtain rfl : l9 = false := by cases l9 with | false => rfl | true => cases HF.out.ord6 rfl
         have hr1 := HF.out.r1 rfl rfl
         (try simp only [selv_false] at hK ⊢)
         refine AnyOrder.wpOp_go rfl (by rfl) ?_
         refine op_append_rows Tryz.underlying23 V2.drew.heap.size rfl (.tmp 43) (.tmp 46) rfl (.slice (some ⟨g, 0, none⟩) 1 1) [x] (out.drop k) Ac m3 q3 rfl rfl hr1 (Kd.C_below HCD.out (za5 (za3 (Below.refl _ V2)) HF.out.below)) HF.out.below.size (by have := HM3.out; simp only [List.length_cons, List.length_nil]; omega) ?_
         intro v3 W3 h1 h2 _
         exact hK _ _ ⟨_, _, _, _, _, _, _, _, _, _, g, v3, rfl, rfl, ⟨⟨fun _ => rfl, fun h => (by cases h), grown_below HF.out.below hr1 h2, fun _ => fun h => (by cases h), fun _ => h1⟩⟩⟩
        ·
         refine AnyOrder.wpOp_go rfl (by rfl) ?_
         go_wp2_with fail
         exact ⟨_, _, _, _, _, _, _, _, _, _, g, v2, rfl, rfl, ⟨⟨HF.out.ord5, fun _ => rfl, HF.out.below, HF.out.r1, HF.out.r2⟩⟩⟩
       case last =>
        rintro L ac V ⟨l0, l1, l2, l3, l4, l5, l6, l7, l8, l9, g, v2, rfl, rfl, HF⟩ hr
        obtain ⟨rfl, rfl, rfl, rfl, rfl, rfl, rfl, rfl, rfl, rfl, -⟩ := AnyOrder.alls rfl (by kernel_rfl) hr
        clear hr
        simp only [sel_true, selv_true]
        have HR2 := za0.mk (HF.out.r2 rfl)
        have HB3 := za0.mk (za5 (za3 (Below.refl _ V2)) HF.out.below)
        have HHB := za0.mk (za5 HHB.out HB3.out)
        have HHK := za0.mk (za7 HHK.out HB3.out)
        obtain ⟨A2, c2, rfl⟩ := RN.slice HR2.out
        have HL2 : za0 (([x] ++ out.drop k).length = m3 + 1) := ⟨by rw [List.length_append, List.length_drop, HCV.out.1, Hm3.out]; simp; omega⟩
        rw [HL2.out] at HR2 ⊢
        have HCR := za0.mk (RN.C HR2.out)
        have HCT := za0.mk (C_to (Kd.C_below HCV.out.2.2 HB3.out) HCV.out.1 HKN.out.1)
        have hkk := HKN.out
        have hcc := HCV.out.2.1
        clear HF
        go_wp2_with (first | (at_builtin; refine app_rows Tryz.underlying23 V.heap.size rfl (.const (.slice none 0 0)) (.tmp 50) rfl (.slice none 0 0) [] (out.take k) Ao k co rfl rfl (Kd.R_nil _ _ _ _ _) HCT.out (Nat.le_refl _) (by simp only [List.length_nil]; omega) ?_; intro v8 W8 hr8 hg8) | (at_builtin; refine app_rows Tryz.underlying23 V.heap.size rfl (.tmp 51) (.tmp 52) rfl v8 ([] ++ out.take k) ([x] ++ out.drop k) A2 (m3 + 1) c2 rfl rfl hr8 (Kd.C_below HCR.out.2.2 (grown_nil hg8)) (grown_nil hg8).size (by have := HM3.out; rw [List.nil_append, List.length_take]; omega) ?_; intro v9 W9 hr9 hg9) | fail)
        rw [List.nil_append, ← List.append_assoc, ← HINS.out] at hr9
        have hbb := grown_below (grown_nil hg8) hr8 hg9
        have HB := za0.mk (za5 HHB.out hbb)
        have HK := za0.mk (za7 HHK.out hbb)
        have HO := za0.mk (Kd.R_lower hr9 HHB.out.size)
        obtain ⟨A9, c9, rfl⟩ := RN.slice HO.out
        obtain ⟨n9, Hn9⟩ : ∃ q, za0 ((insB x out).length = q) := ⟨_, ⟨rfl⟩⟩
        rw [Hn9.out] at HO ⊢
        have hxi := HXI.out
        clear hr8 hg8 hr9 hg9 hbb
        go_wp2
        go_roundw
        case rel => exact ⟨i' + 1, A9, n9, c9, by omega, by go_num, rfl, ⟨by rw [HST.out]; exact HO.out⟩, HK, HB⟩
        case measure => simp [intOf] <;> omega
   ·
    have hne : (x.f1.f0 == d.f0 && (x.f1.f1 == d.f1)) = false := by
     rw [Bool.eq_false_iff]
     intro h
     simp only [Bool.and_eq_true, beq_iff_eq] at h
     exact hxd (Dot.ext_iff'.2 h)
    rw [if_neg hxd] at HST
    clear hxd
    go_wp2
    go_quiet (fail)
    have hdq := (Gr.drawn (w := wr) ⟨nq, rfl⟩).below
    go_wp2
    go_roundw
    case rel => exact ⟨i' + 1, Ao, no, co, by omega, by go_num, rfl, ⟨by rw [HST.out]; exact RN.below' HO.out hdq⟩, ⟨za7 HK.out hdq⟩, ⟨za5 HB.out hdq⟩⟩
    case measure => simp [intOf] <;> omega
  ·
   obtain rfl : i' = n := by omega
   rw [List.take_of_length_le (Nat.le_of_eq Hn.out)] at HO
   go_wp2
   go_ret
   exact ⟨_, rfl, HO.out, HB.out⟩
end
section
def redpencilref14_Order.f (l0 : List Node) : Option (List Node) := if l0.length ≤ 400000 ∧ zak l0 = true then some (nds (ordOf l0)) else none
theorem nds_dep (c : Nat) (l : List Node) : nds (l.map fun y => (c, y)) = l := by
 unfold nds
 simp [Function.comp_def]
/-- What has come up where the rest of the stack is put after the children. -/
structure OP (W0 : World) (ks tl : List Node) (l3 l4 l6 l7 : Bool) (va vb : Value) (V : World) : Prop where
 ord6 : l6 = true → l3 = true
 ord7 : l7 = true → l6 = true ∧ l4 = true
 below : Below W0.heap.size W0 V
 r1 : l3 = true → l6 = false → RN V W0.heap.size va ks
 r2 : l6 = true → RN V W0.heap.size vb (ks ++ tl)
def or14Inv (W0 : World) (A0 Ao Ac : Option Addr) (ad : Addr) (n c0 no co nt ct m3 q3 NB : Nat) (x : Node) (ks tl : List Node) (z1 z6 z7 z8 z9 z10 z11 z12 z13 z14 z15 z16 z17 z18 z19 z20 z21 z22 z23 z24 z25 z26 : Value) (L : Array Bool) (ac : Act) (V : World) : Prop := ∃ (l0 l1 l2 l3 l4 l5 l6 l7 : Bool) (va : Value) (vb : Value), L = #[l0, l1, l2, l3, l4, l5, l6, l7] ∧ ac = { tmps := #[.slice A0 n c0, z1, .slice none 0 0, .slice Ao no co, selv l7 (vb) (.slice (some ad) nt ct), .pointer (some ⟨NB, 0, none⟩), z6, z7, z8, z9, z10, z11, z12, z13, z14, z15, z16, z17, z18, selv l0 (.slice A0 n c0) (z19), selv l1 (.pointer (some ⟨NB, 0, none⟩)) (z20), selv l2 (.agg #[.int .i64 x.f0.f0, .int .i64 x.f0.f1]) (z21), selv l3 (va) (z22), selv l4 (.slice (some ad) nt ct) (z23), selv l5 (.slice Ac m3 q3) (z24), selv l6 (vb) (z25), z26], defers := [] } ∧ za0 (OP W0 ks tl l3 l4 l6 l7 va vb V)
set_option maxHeartbeats 4000000 in
set_option maxRecDepth 100000 in
theorem redpencilref14_Order.calls (A0 : Option Addr) (c0 : Nat) (l0 : List Node) (r : List Node) (w : World) (hr0 : Kd.C k53 w A0 l0.length l0) (hc0 : l0.length ≤ c0) (h : redpencilref14_Order.f l0 = some r) :
  Calls Tryz.prog 62 #[.slice A0 l0.length c0] w fun e w' => ∃ v0_ : Value, e = .returned v0_ ∧ Kd.R k53 53 w' w.heap.size (fun _ => True) v0_ r ∧ Below w.heap.size w w' := by
 unfold redpencilref14_Order.f at h
 by_cases hl : l0.length ≤ 400000 ∧ zak l0 = true
 rotate_left
 ·
  rw [if_neg hl] at h; cases h
 rw [if_pos hl] at h
 obtain rfl := Option.some.inj h
 obtain ⟨n, Hn⟩ : ∃ n, za0 (l0.length = n) := ⟨_, ⟨rfl⟩⟩
 have HL : za0 (n ≤ 400000) := ⟨by rw [← Hn.out]; exact hl.1⟩
 have HS : za0 (Store l0) := ⟨store_of hl.2⟩
 have HCH : za0 (∀ (d : Dot) (W : World), Below w.heap.size w W → Calls Tryz.prog 86 #[.slice A0 n c0, .agg #[.int .i64 d.f0, .int .i64 d.f1]] W fun e w' => ∃ v0_ : Value, e = .returned v0_ ∧ RN w' W.heap.size v0_ (kids l0 d) ∧ Below W.heap.size W w') := ⟨fun d W hb => by
  rw [← Hn.out]
  exact redpencilref14_Children.calls A0 c0 l0 d.f0 d.f1 (kids l0 d) W (Kd.C_below hr0 hb) hc0 (by unfold redpencilref14_Children.f; rw [if_pos hl.1])⟩
 rw [Hn.out]
 clear h hl hr0 hc0
 have hu := Tryz.underlying53
 go_enter Tryz.func62, Tryz.ntmps62
 go_wp2_with fail
 refine (HCH.out ⟨0, 0⟩ w (Below.refl _ w)).mono ?_
 rintro e W1 ⟨vt, rfl, hrt, hbt⟩
 obtain ⟨At0, ct0, rfl⟩ := RN.slice hrt
 obtain ⟨nt0, Hnt0⟩ : ∃ k, za0 ((kids l0 ⟨0, 0⟩).length = k) := ⟨_, ⟨rfl⟩⟩
 rw [Hnt0.out] at hrt ⊢
 have HT0 := za0.mk hrt
 have HB0 := za0.mk hbt
 clear hrt hbt
 have HP0 : za0 (∀ p ∈ (kids l0 ⟨0, 0⟩).map (fun y => (0, y)), ∃ U, Path l0 p.2.f0 U) := ⟨fun p hp => by
  obtain ⟨y, hy, rfl⟩ := List.mem_map.1 hp
  obtain ⟨h1, h2⟩ := mem_kids.1 hy
  exact ⟨[y], Path.step _ _ y .root h1 h2⟩⟩
 obtain ⟨N, HN⟩ : ∃ N, za0 ((nds (ordOf l0)).length = N) := ⟨_, ⟨rfl⟩⟩
 have HNL : za0 (N ≤ 400000) := ⟨by rw [← HN.out]; unfold nds; rw [List.length_map]; have h1 := ord_le HS.out; have h2 := Hn.out; have h3 := HL.out; omega⟩
 go_wp2
 go_loopw [3, 4] (fun s q wr => ∃ (Ao At : Option Addr) (no co nt ct : Nat) (T : List (Nat × Node)) (dn : List Node), s = .slice Ao no co ∧ q = .slice At nt ct ∧ za0 (RN wr w.heap.size (.slice Ao no co) dn) ∧ za0 (RN wr w.heap.size (.slice At nt ct) (nds T)) ∧ za0 (dn ++ nds (restOf l0 T) = nds (ordOf l0)) ∧ za0 (∀ p ∈ T, ∃ U, Path l0 p.2.f0 U) ∧ za0 (∀ g, (Value.slice Ao no co).ownBlock = some g → (Value.slice At nt ct).ownBlock ≠ some g) ∧ za0 (Below w.heap.size w wr)) (fun o _ _ => N - lenV o)
 case atStart =>
  refine ⟨none, At0, 0, 0, nt0, ct0, (kids l0 ⟨0, 0⟩).map (fun y => (0, y)), [], rfl, rfl, ⟨Kd.R_nil _ _ _ _ _⟩, ⟨?_⟩, ⟨?_⟩, HP0, ⟨fun g hg => (by cases hg)⟩, HB0⟩
  ·
   rw [nds_dep]; exact HT0.out
  ·
   rw [restOf_kids HS.out .root 0]; rfl
 case round =>
  obtain ⟨Ao, At, no, co, nt, ct, T, dn, rfl, rfl, HO, HT, HE, HP, HD, HB⟩ := hrel
  clear HT0 HB0 HP0
  have HLO : za0 (dn.length = no) := ⟨(RN.C HO.out).1⟩
  have HLT : za0 (T.length = nt) := ⟨by have := (RN.C HT.out).1; unfold nds at this; simpa using this⟩
  by_cases hlt : 0 < nt
  ·
   obtain ⟨p, T', rfl⟩ : ∃ p T', T = p :: T' := by
    cases T with
    | nil => have := HLT.out; simp at this; omega
    | cons p T' => exact ⟨p, T', rfl⟩
   obtain ⟨U, hU⟩ := HP.out p List.mem_cons_self
   have HU := za0.mk hU
   clear hU
   have HE2 : za0 (dn ++ [p.2] ++ nds (restOf l0 ((kids l0 p.2.f0).map (fun y => (p.1 + 1, y)) ++ T')) = nds (ordOf l0)) := ⟨by
    rw [← HE.out, restOf_cons HS.out HU.out]; simp [nds]⟩
   have HP2 : za0 (∀ q ∈ (kids l0 p.2.f0).map (fun y => (p.1 + 1, y)) ++ T', ∃ U, Path l0 q.2.f0 U) := ⟨fun q hq => by
    rcases List.mem_append.1 hq with hq | hq
    ·
     obtain ⟨y, hy, rfl⟩ := List.mem_map.1 hq
     obtain ⟨h1, h2⟩ := mem_kids.1 hy
     exact ⟨y :: U, Path.step _ _ y HU.out h1 h2⟩
    ·
     exact HP.out q (List.mem_cons_of_mem _ hq)⟩
   have HNO : za0 (no < N ∧ N ≤ 400000) := ⟨by
    have h1 := congrArg List.length HE2.out
    rw [HN.out] at h1
    simp only [List.length_append, List.length_cons, List.length_nil] at h1
    have := HLO.out
    omega, HNL.out⟩
   have HNT : za0 (nt ≤ 400000) := ⟨by
    have h1 := congrArg List.length HE.out
    rw [HN.out, List.length_append] at h1
    have h2 := restOf_le l0 (p :: T')
    have h3 : (nds (restOf l0 (p :: T'))).length = (restOf l0 (p :: T')).length := List.length_map _
    have := HLT.out
    have := HNO.out
    omega⟩
   have HTL : za0 ((nds (p :: T')).length = nt) := ⟨by unfold nds; rw [List.length_map]; exact HLT.out⟩
   clear HE HP HU
   obtain ⟨x, Hx⟩ : ∃ x, za0 (p.2 = x) := ⟨_, ⟨rfl⟩⟩
   obtain ⟨ad, e, y0, y1, y2, y3, y4, y5⟩ := node_at (RN.C HT.out).2.2 (Below.refl _ wr) 0 x (by rw [← Hx.out]; rfl)
   subst e
   have hlt2 : 0 < nt ∧ nt ≤ 400000 := ⟨hlt, HNT.out⟩
   rw [show ad.add (0 * 6) = ad by simp [Addr.add]] at y0 y1 y2 y3 y4 y5
   go_upto_region 5 with (fail)
   obtain ⟨NB, HNB⟩ : ∃ q, za0 (wr.heap.size = q) := ⟨_, ⟨rfl⟩⟩
   have HKB : za0 ((wr.alloc (boxN x)).heap[NB]? = some (boxN x)) := ⟨by rw [← HNB.out]; exact zal wr _⟩
   have HOB : za0 (∀ g, (Value.slice Ao no co).ownBlock = some g → g < NB) := ⟨fun g hg => by rw [← HNB.out]; exact RN.lt HO.out hg⟩
   have hb0 := za2 (Below.refl wr.heap.size wr) (boxN x)
   have HO := za0.mk (RN.below' HO.out hb0)
   have HT := za0.mk (RN.below' HT.out hb0)
   have HB := za0.mk (za5 HB.out hb0)
   rw [HNB.out]
   clear y0 y1 y2 y3 y4 y5 hb0 HNB
   generalize wr.alloc (boxN x) = V1 at *
   obtain ⟨b0, b1, b2, b3, b4, b5⟩ := box_six HKB.out
   go_upto_region 6 with (at_builtin; refine app_rows Tryz.underlying23 w.heap.size rfl (.tmp 15) (.tmp 17) rfl (.slice Ao no co) dn [x] (some ⟨V1.heap.size, 0, none⟩) 1 1 rfl rfl (RN.below' HO.out (za2 (Below.refl _ V1) _)) (Kd.R_reads' (lit_nodes V1 0 (Nat.zero_le _) [x] 1 rfl (by decide) (by decide) _ rfl)).2.2 (by rw [World.size_alloc]; exact Nat.le_succ_of_le HB.out.size) (by have := HLO.out; have := HNO.out; omega) ?_; intro v1 W2 hr1 hg1)
   have hVT := RN.below' HT.out (za2 (Below.refl _ V1) (boxN x))
   have hVK := zad HKB.out (boxN x)
   have HT2 : za0 (RN W2 w.heap.size (.slice (some ad) nt ct) (nds (p :: T'))) := ⟨hVT.keep fun g hg => hg1.block g (RN.lt hVT hg) fun e => HD.out g e.symm hg⟩
   have HKB2 : za0 (W2.heap[NB]? = some (boxN x)) := ⟨(hg1.block NB (zan hVK) fun e => Nat.lt_irrefl _ (HOB.out NB e.symm)).trans hVK⟩
   have HB2 := za0.mk (grown_below (za2 HB.out (boxN x)) (RN.below' HO.out (za2 (Below.refl _ V1) (boxN x))) hg1)
   have HO2 := za0.mk hr1
   clear b0 b1 b2 b3 b4 b5 hVT hVK hr1 hg1 HO HB HT HD HOB HKB
   have HT := za0.mk HT2.out
   have HKB := za0.mk HKB2.out
   have HB := za0.mk HB2.out
   have HO := za0.mk HO2.out
   clear HT2 HKB2 HB2 HO2
   obtain ⟨A3, c3, rfl⟩ := RN.slice HO.out
   have HL3 : za0 ((dn ++ [x]).length = no + 1) := ⟨by rw [List.length_append, HLO.out]; rfl⟩
   rw [HL3.out] at HO ⊢
   obtain ⟨m3, Hm3⟩ : ∃ m3, za0 (nt - 1 = m3) := ⟨_, ⟨rfl⟩⟩
   obtain ⟨q3, Hq3⟩ : ∃ q3, za0 (ct - 1 = q3) := ⟨_, ⟨rfl⟩⟩
   obtain ⟨Ac, HAc⟩ : ∃ Ac, za0 ((if ct = 1 then some ad else (some ad).map (·.add (1 * 6))) = Ac) := ⟨_, ⟨rfl⟩⟩
   obtain ⟨tl, Htl⟩ : ∃ tl, za0 (nds T' = tl) := ⟨_, ⟨rfl⟩⟩
   have HCT := za0.mk (RN.C HT.out)
   have HCD : za0 (Kd.C k53 W2 Ac m3 tl) := ⟨by rw [← HAc.out, ← Hm3.out, ← Htl.out]; exact C_from HCT.out.2.2 HTL.out hlt HCT.out.2.1⟩
   have HCF : za0 (∀ W, (Instr.sliceAt 23 (.slice (some ad) nt ct) (some (.int .i64 1)) none none).run Tryz.prog W = .ok (.slice Ac m3 q3) W) := ⟨fun W => by rw [← HAc.out, ← Hm3.out, ← Hq3.out]; exact cut_fromT Tryz.underlying23 (k := 1) hlt W⟩
   have HM3 : za0 ((kids l0 x.f0).length + m3 ≤ 1000000) := ⟨by have h1 := kids_le l0 x.f0; have := Hm3.out; have := HNT.out; have := Hn.out; have := HL.out; omega⟩
   have HCX : za0 (∀ (W : World), Below w.heap.size w W → Calls Tryz.prog 86 #[.slice A0 n c0, .agg #[.int .i64 x.f0.f0, .int .i64 x.f0.f1]] W fun e w' => ∃ v0_ : Value, e = .returned v0_ ∧ RN w' W.heap.size v0_ (kids l0 x.f0) ∧ Below W.heap.size W w') := ⟨HCH.out x.f0⟩
   obtain ⟨ks, Hks⟩ : ∃ ks, za0 (kids l0 x.f0 = ks) := ⟨_, ⟨rfl⟩⟩
   rw [Hks.out] at HM3 HCX
   clear HCT hlt2
   refine AnyOrder.wp_region (by kernel_rfl) (or14Inv W2.drew A0 A3 Ac ad n c0 (no + 1) c3 nt ct m3 q3 NB x ks tl _ _ _ _ _ _ _ _ _ _ _ _ _ _ _ _ _ _ _ _ _ _) ⟨false, false, false, false, false, false, false, false, undef, undef, rfl, rfl, ⟨⟨fun h => (by cases h), fun h => (by cases h), Below.refl _ _, fun h => (by cases h), fun h => (by cases h)⟩⟩⟩ ?step ?last
   case step =>
    rintro L ac V i ⟨l0, l1, l2, l3, l4, l5, l6, l7, va, vb, rfl, rfl, HF⟩ hi K hK
    rcases AnyOrder.up hi [0, 1, 2, 3, 4, 5, 6, 7] rfl with rfl | rfl | rfl | rfl | rfl | rfl | rfl | rfl
    all_goals
     replace hi := AnyOrder.first hi rfl
     repeat (obtain ⟨ha, hi⟩ := hi; first | obtain rfl := ha | clear ha)
     clear hi
     try simp only [sel_true, selv_true] at hK ⊢
    iterate 2
     ·
      refine AnyOrder.wpOp_go rfl (by rfl) ?_
      go_wp2_with fail
      exact ⟨_, _, _, _, _, _, _, _, va, vb, rfl, rfl, HF⟩
    ·
     have k0 := (za4 (za7 HKB.out (za5 (za3 (Below.refl _ W2)) HF.out.below)) 0).trans rfl
     have k1 := (za4 (za7 HKB.out (za5 (za3 (Below.refl _ W2)) HF.out.below)) 1).trans rfl
     refine AnyOrder.wpOp_go rfl (by rfl) ?_
     go_wp2_with fail
     exact ⟨_, _, _, _, _, _, _, _, va, vb, rfl, rfl, HF⟩
    ·
     obtain rfl : l6 = false := by cases l6 with | false => rfl | true => cases HF.out.ord6 rfl
     obtain rfl : l7 = false := by cases l7 with | false => rfl | true => cases (HF.out.ord7 rfl).1
     (try simp only [selv_false] at hK ⊢)
     refine AnyOrder.wpOp_go rfl (by rfl) ?_
     go_wp2_with fail
     refine (HCX.out V (za5 HB.out (za5 (za3 (Below.refl _ W2)) HF.out.below))).mono ?_
     rintro e V' ⟨v', rfl, hr, hb⟩
     exact hK _ _ ⟨_, _, _, _, _, _, _, _, v', vb, rfl, rfl, ⟨⟨fun h => (by cases h), fun h => (by cases h), za5 HF.out.below hb, fun _ _ => Kd.R_lower hr HF.out.below.size, fun h => (by cases h)⟩⟩⟩
    ·
     obtain rfl : l7 = false := by cases l7 with | false => rfl | true => cases (HF.out.ord7 rfl).2
     (try simp only [selv_false] at hK ⊢)
     refine AnyOrder.wpOp_go rfl (by rfl) ?_
     go_wp2_with fail
     exact ⟨_, _, _, _, _, _, _, _, va, vb, rfl, rfl, ⟨⟨HF.out.ord6, fun h => (by cases h), HF.out.below, HF.out.r1, HF.out.r2⟩⟩⟩
    ·
     refine AnyOrder.wpOp_go rfl (by rfl) ?_
     refine op_slice 23 (.tmp 23) (some (.const (.int .i64 1))) none rfl rfl rfl rfl (HCF.out V) ?_
     exact hK _ _ ⟨_, _, _, _, _, _, _, _, va, vb, rfl, rfl, HF⟩
    ·
     obtain rfl : l7 = false := by cases l7 with | false => rfl | true => cases (HF.out.ord7 rfl).1
     have hr1 := HF.out.r1 rfl rfl
     (try simp only [selv_false] at hK ⊢)
     refine AnyOrder.wpOp_go rfl (by rfl) ?_
     refine op_append_rows Tryz.underlying23 W2.drew.heap.size rfl (.tmp 22) (.tmp 24) rfl va ks tl Ac m3 q3 rfl rfl hr1 (Kd.C_below HCD.out (za5 (za3 (Below.refl _ W2)) HF.out.below)) HF.out.below.size (by have := HM3.out; omega) ?_
     intro v3 W3 h1 h2 _
     exact hK _ _ ⟨_, _, _, _, _, _, _, _, va, v3, rfl, rfl, ⟨⟨fun _ => rfl, fun h => (by cases h), grown_below HF.out.below hr1 h2, fun _ => fun h => (by cases h), fun _ => h1⟩⟩⟩
    ·
     refine AnyOrder.wpOp_go rfl (by rfl) ?_
     go_wp2_with fail
     exact ⟨_, _, _, _, _, _, _, _, va, vb, rfl, rfl, ⟨⟨HF.out.ord6, fun _ => ⟨rfl, rfl⟩, HF.out.below, HF.out.r1, HF.out.r2⟩⟩⟩
   case last =>
    rintro L ac V ⟨l0, l1, l2, l3, l4, l5, l6, l7, va, vb, rfl, rfl, HF⟩ hr
    obtain ⟨rfl, rfl, rfl, rfl, rfl, rfl, rfl, rfl, -⟩ := AnyOrder.alls rfl (by kernel_rfl) hr
    clear hr
    simp only [sel_true, selv_true]
    have HR2 := za0.mk (HF.out.r2 rfl)
    have HB3 := za0.mk (za5 (za3 (Below.refl _ W2)) HF.out.below)
    obtain ⟨A9, c9, rfl⟩ := RN.slice HR2.out
    have HO9 := za0.mk (RN.below' HO.out HB3.out)
    have HD9 : za0 (∀ g, (Value.slice A3 (no + 1) c3).ownBlock = some g → (Value.slice A9 (ks ++ tl).length c9).ownBlock ≠ some g) := ⟨fun g hg hg2 => Nat.lt_irrefl _ (Nat.lt_of_lt_of_le (RN.lt HO.out hg) (RN.block HR2.out hg2).1)⟩
    obtain ⟨n9, Hn9⟩ : ∃ q, za0 ((ks ++ tl).length = q) := ⟨_, ⟨rfl⟩⟩
    rw [Hn9.out] at HR2 HD9 ⊢
    have HB9 := za0.mk (za5 HB.out HB3.out)
    have HRL := za0.mk (Kd.R_lower HR2.out (show w.heap.size ≤ W2.drew.heap.size from HB.out.size))
    clear HF HB HO HT HKB HCF HCD HB3
    go_wp2
    go_roundw
    case rel =>
     refine ⟨A3, A9, no + 1, c3, n9, c9, (kids l0 p.2.f0).map (fun y => (p.1 + 1, y)) ++ T', dn ++ [x], rfl, rfl, HO9, ⟨?_⟩, ⟨by rw [← Hx.out]; exact HE2.out⟩, HP2, HD9, HB9⟩
     rw [show nds ((kids l0 p.2.f0).map (fun y => (p.1 + 1, y)) ++ T') = ks ++ tl by rw [← Htl.out, ← Hks.out, ← Hx.out]; unfold nds; rw [List.map_append]; exact congrArg (· ++ _) (nds_dep _ _)]
     exact HRL.out
    case measure => have := HNO.out; simp [lenV]; omega
  ·
   obtain rfl : T = [] := List.eq_nil_of_length_eq_zero (by have := HLT.out; omega)
   have HE : za0 (dn = nds (ordOf l0)) := ⟨by rw [← HE.out]; simp [restOf, nds]⟩
   rw [HE.out] at HO
   go_wp2
   go_ret
   exact ⟨_, rfl, HO.out, HB.out⟩
end
end Go.Proofs.YtmbndijbpgobeaaGreat.PWalk
end
section
namespace Go.Proofs.YtmbndijbpgobeaaGreat.PWalk
open Go.RowKit Go.Proofs.YtmbndijbpgobeaaGreatW.PrintWords Go.Proofs.YtmbndijbpgobeaaGreatW.PrintLast Go.Proofs.YtmbndijbpgobeaaGreatW.PrintMore
attribute [local go_sem] max2_int max_two
set_option linter.unusedVariables false
set_option linter.unusedSimpArgs false
section
def redpencilref14_Visible.l0 : Nat → List (S53) → List (S53) → Int → Option ((List (S53)))
 | 0, _, _, _ => none
 | k + 1, x3, x4, x5 => if x5 < (x4.length : Int) then (if 0 ≤ x5 then (if ((za9 x4 x5).f3) = 0 then (redpencilref14_Visible.l0 k x3 x4 (wrap64 (x5 + 1))) else (if x3.length < 2932031007402 then (redpencilref14_Visible.l0 k (x3 ++ [(⟨(⟨(za9 x4 x5).f0.f0, (za9 x4 x5).f0.f1⟩ : S25), (⟨(za9 x4 x5).f1.f0, (za9 x4 x5).f1.f1⟩ : S25), (za9 x4 x5).f2, (za9 x4 x5).f3⟩ : S53)]) x4 (wrap64 (x5 + 1))) else (none))) else (none)) else (some x3)
def redpencilref14_Visible.f (k : Nat) (l0 : List (S53)) : Option ((List (S53))) := (redpencilref14_Order.f l0).bind fun t264 => (redpencilref14_Visible.l0 k ([] : List (S53)) t264 0)
set_option maxHeartbeats 8000000 in
set_option maxRecDepth 100000 in
theorem redpencilref14_Visible.calls (k : Nat) (A0 : Option Addr) (c0 : Nat) (l0 : List (S53)) (r : List (S53)) (w : World) (hr0 : Kd.C k53 w A0 l0.length l0) (hc0 : l0.length ≤ c0) (h : redpencilref14_Visible.f k l0 = some r) :
  Calls Tryz.prog 38 #[.slice A0 l0.length c0] w fun e w' => ∃ v0_ : Value, e = .returned (v0_) ∧ Kd.R k53 53 w' w.heap.size (fun _ => True) v0_ r ∧ Below w.heap.size w w' := by
 have hu53 := Tryz.underlying53
 have HR0 := za0.mk hr0
 have HC0 := za0.mk hc0
 clear hr0 hc0
 have HB := za0.mk (Below.refl w.heap.size w)
 have H : ((redpencilref14_Order.f l0).bind fun t264 => (redpencilref14_Visible.l0 k ([] : List (S53)) t264 0)) = some r := h
 clear h
 replace H := Option.bind_eq_some_iff.mp H
 obtain ⟨t264, A20, H⟩ := H
 replace H : (redpencilref14_Visible.l0 k ([] : List (S53)) t264 0) = some r := H
 have A2 := za0.mk A20
 clear A20
 have H' := za0.mk H
 clear H
 go_enter Tryz.func38, Tryz.ntmps38
 go_wp2_with (first | ((with_reducible refine zah (f := 62) rfl ?_); refine zar (some 7) rfl rfl Tryz.func62 (by kernel_rfl) rfl #[.slice A0 l0.length c0] rfl (by (try simp only [List.map_toArray, List.map_cons, List.map_nil]); first | done | rfl | (simp only [List.length_drop, List.length_take]; rfl)) ?_; (with_reducible refine (redpencilref14_Order.calls _ _ l0 t264 _ ?side1 ?side2 A2.out).mono ?_); (case side1 => repeat (first | exact HR0.out | (with_reducible refine Kd.C_alloc ?_ _) | (with_reducible refine Kd.C_drewN ?_ _) | (with_reducible refine Kd.C_drew ?_))); (case side2 => exact HC0.out); rintro e w3 ⟨v265, rfl, ho0, hb⟩; refine ⟨_, rfl, ?_⟩; have n0_ := za0.mk (Kd.R_lower ho0 (za8 (by repeat (first | (with_reducible first | exact HB.out | apply za2 | apply za1 | apply za3) | exact HB.out)))); have n1_ := za0.mk (zaa (by repeat (first | (with_reducible first | exact HB.out | apply za2 | apply za1 | apply za3) | exact HB.out)) hb); clear HB; have HO266 := n0_; have HB := n1_; clear n0_ n1_; (try clear hb); (try clear hb2); (try clear hk); (try clear hi); (try clear ho0)))
 go_loopg [3, 5] k (fun kq v3 v5 w' => ∃ (x3_1 : List (S53)) (x5_1 : Int), v5 = .int .i64 x5_1 ∧ za0 (redpencilref14_Visible.l0 kq x3_1 t264 x5_1 = some r) ∧ za0 (kq ≤ k) ∧ za0 (Kd.R k53 53 w' w.heap.size (fun k_ => some k_ ≠ (v265 : Value).ownBlock) v3 x3_1) ∧ za0 (Kd.R k53 53 w' w.heap.size (fun k_ => some k_ ≠ (v3 : Value).ownBlock) v265 t264) ∧ za0 (Below w.heap.size w w'))
 case atStart => exact ⟨(([] : List (S53))), (0), (by first | rfl | (simp; done) | (simp [*]; done)), H', ⟨Nat.le_refl _⟩, ⟨by first | exact Kd.R_nil _ _ _ _ _ | exact Kd.N_nil _ _ _ _ _ | exact Kd.V_nil _ _ _ _ _ | exact Kd.Q_nil _ _ _ _ _ | exact Kd.S_nil _ _ _ _ _⟩, ⟨by (with_reducible repeat (first | apply Kd.R_alloc | apply Kd.R_drewN | apply Kd.R_drew)); exact Kd.R_mono HO266.out (fun _ hk => (by simp [Value.ownBlock]))⟩, ⟨by repeat (first | (with_reducible first | exact HB.out | apply za2 | apply za1 | apply za3) | exact HB.out)⟩⟩
 case round =>
  clear H'
  try clear p2
  try clear c3
  obtain ⟨x3_1, x5_1, rfl, HA, HK1, HO_3, HO_4, HB⟩ := hrel
  cases gk with
  | zero => exact absurd HA.out (by simp [redpencilref14_Visible.l0])
  | succ k1 =>
   have H := HA.out
   clear HA
   simp only [redpencilref14_Visible.l0] at H
   by_cases c4 : x5_1 < (t264.length : Int)
   ·
    rw [if_pos c4] at H
    have c4b0 : decide (x5_1 < (t264.length : Int)) = true := decide_eq_true c4
    clear c4
    by_cases c5 : 0 ≤ x5_1
    ·
     rw [if_pos c5] at H
     have c5b0 : decide (0 ≤ x5_1) = true := decide_eq_true c5
     clear c5
     by_cases c6 : ((za9 t264 x5_1).f3) = 0
     ·
      rw [if_pos c6] at H
      have c6b0 : (((za9 t264 x5_1).f3) == 0) = true := beq_iff_eq.mpr c6
      have c6b1 : (((za9 t264 x5_1).f3) != 0) = false := bne_eq_false_iff_eq.mpr c6
      clear c6
      have H' := za0.mk H
      clear H
      obtain ⟨Ao7, co7, eo7⟩ := Kd.R_slice HO_4.out
      subst eo7
      have p267 : 0 ≤ (x5_1 : Int) := of_decide_eq_true (by first | (with_reducible assumption) | assumption)
      have q267 : x5_1 < (t264.length : Int) := of_decide_eq_true (by first | (with_reducible assumption) | assumption)
      obtain ⟨ad267, e267, hx267_0, hx267_1, hx267_2, hx267_3, hx267_4, hx267_5⟩ := at_T53 (Kd.R_reads' HO_4.out).2.2 x5_1 p267 q267
      cases e267
      replace p267 := eq_true p267
      replace q267 := eq_true q267
      go_wp2
      go_roundg k1
      case measure => have := HK1.out; omega
      case rel => exact ⟨(x3_1), (wrap64 (x5_1 + 1)), (by first | rfl | (simp; done) | (simp [*]; done)), H', ⟨by have := HK1.out; omega⟩, ⟨by (with_reducible repeat (first | apply Kd.R_alloc | apply Kd.R_drewN | apply Kd.R_drew)); exact HO_3.out⟩, ⟨by (with_reducible repeat (first | apply Kd.R_alloc | apply Kd.R_drewN | apply Kd.R_drew)); exact HO_4.out⟩, ⟨by repeat (first | (with_reducible first | exact HB.out | apply za2 | apply za1 | apply za3) | exact HB.out)⟩⟩
     ·
      rw [if_neg c6] at H
      have c6b0 : (((za9 t264 x5_1).f3) == 0) = false := beq_eq_false_iff_ne.mpr c6
      have c6b1 : (((za9 t264 x5_1).f3) != 0) = true := bne_iff_ne.mpr c6
      by_cases c8 : x3_1.length < 2932031007402
      ·
       rw [if_pos c8] at H
       have LMc8 := za0.mk c8
       clear c8
       obtain ⟨y269, hy269⟩ : ∃ y_ : List (S53), y_ = (x3_1 ++ [(⟨(⟨(za9 t264 x5_1).f0.f0, (za9 t264 x5_1).f0.f1⟩ : S25), (⟨(za9 t264 x5_1).f1.f0, (za9 t264 x5_1).f1.f1⟩ : S25), (za9 t264 x5_1).f2, (za9 t264 x5_1).f3⟩ : S53)]) := ⟨_, rfl⟩
       replace H : (redpencilref14_Visible.l0 k1 y269 t264 (wrap64 (x5_1 + 1))) = some r := by first | (rw [hy269]; with_reducible exact H) | (have H2_ := (Option.bind_some _ _).symm.trans H; rw [hy269]; with_reducible exact H2_) | (have H2_ := (Option.bind_some _ _).symm.trans H; with_reducible exact H2_) | with_reducible exact H | (rw [hy269]; exact H) | exact H
       have Ny269 := za0.mk hy269
       clear hy269
       have H' := za0.mk H
       clear H
       obtain ⟨Ao9, co9, eo9⟩ := Kd.R_slice HO_4.out
       subst eo9
       have p267 : 0 ≤ (x5_1 : Int) := of_decide_eq_true (by first | (with_reducible assumption) | assumption)
       have q267 : x5_1 < (t264.length : Int) := of_decide_eq_true (by first | (with_reducible assumption) | assumption)
       obtain ⟨ad267, e267, hx267_0, hx267_1, hx267_2, hx267_3, hx267_4, hx267_5⟩ := at_T53 (Kd.R_reads' HO_4.out).2.2 x5_1 p267 q267
       cases e267
       replace p267 := eq_true p267
       replace q267 := eq_true q267
       have p268 : 0 ≤ (x5_1 : Int) := of_decide_eq_true (by first | (with_reducible assumption) | assumption)
       have q268 : x5_1 < (t264.length : Int) := of_decide_eq_true (by first | (with_reducible assumption) | assumption)
       obtain ⟨ad268, e268, hx268_0, hx268_1, hx268_2, hx268_3, hx268_4, hx268_5⟩ := at_T53 (Kd.R_reads' HO_4.out).2.2 x5_1 p268 q268
       obtain rfl : ad267 = ad268 := (by injection e268)
       replace p268 := eq_true p268
       replace q268 := eq_true q268
       go_wp2_with (first | ((with_reducible refine gate_builtin (b := .append) (xs := #[.tmp 20, .tmp 25]) rfl ?_); at_builtin; refine Kd.R_append k53 (w0 := w) w.heap.size rfl (.tmp 20) (.tmp 25) 23 53 (.agg #[(.int .i64 0), (.int .i64 0), (.int .i64 0), (.int .i64 0), (.int .i64 0), (.int .i32 0)]) 48 rfl Tryz.underlying23 info53 rfl (by decide) (by omega) u3 x3_1 (⟨(⟨(za9 t264 x5_1).f0.f0, (za9 t264 x5_1).f0.f1⟩ : S25), (⟨(za9 t264 x5_1).f1.f0, (za9 t264 x5_1).f1.f1⟩ : S25), (za9 t264 x5_1).f2, (za9 t264 x5_1).f3⟩ : S53) [.int .i64 ((za9 t264 x5_1).f0.f0), .int .i64 ((za9 t264 x5_1).f0.f1), .int .i64 ((za9 t264 x5_1).f1.f0), .int .i64 ((za9 t264 x5_1).f1.f1), .int .i64 ((za9 t264 x5_1).f2), .int .i32 ((za9 t264 x5_1).f3)] (fun k_ => some k_ ≠ (.slice (some ad267) t264.length co9 : Value).ownBlock) (fun _ => False) rfl rfl ?aP (fun _ hk => hk.elim) ?aF ?aO ?aB ?aS ?aL ?_; (case aP => exact k53_mkM _ _ _ (⟨(⟨(za9 t264 x5_1).f0.f0, (za9 t264 x5_1).f0.f1⟩ : S25), (⟨(za9 t264 x5_1).f1.f0, (za9 t264 x5_1).f1.f1⟩ : S25), (za9 t264 x5_1).f2, (za9 t264 x5_1).f3⟩ : S53)); (case aB => exact (by repeat (first | (with_reducible first | exact HB.out | apply za2 | apply za1 | apply za3) | exact HB.out))); (case aF => exact (fun k_ hk => Kd.fresh' (Kd.R_lt (by (with_reducible repeat (first | apply Kd.R_alloc | apply Kd.R_drewN | apply Kd.R_drew)); exact HO_4.out)) k_ hk)); (case aO => exact (by (with_reducible repeat (first | apply Kd.R_alloc | apply Kd.R_drewN | apply Kd.R_drew)); exact HO_3.out)); (case aS => exact (za8 (by repeat (first | (with_reducible first | exact HB.out | apply za2 | apply za1 | apply za3) | exact HB.out)))); (case aL => have := LMc8.out; omega); intro v270 w10 ho hb hg hat; rw [← Ny269.out] at ho; have n0_ := za0.mk (Kd.R_after (ok := (fun _ => True)) (by (with_reducible repeat (first | apply Kd.R_alloc | apply Kd.R_drewN | apply Kd.R_drew)); exact Kd.R_mono HO_4.out (fun _ hk => ⟨trivial, hk⟩)) hg hat); have n1_ := za0.mk (hb); have n2_ := za0.mk (ho); clear HO_4; clear HB; clear HO_3; have HO_4 := n0_; have HB := n1_; have HO271 := n2_; clear n0_ n1_ n2_; clear ho hb hg hat))
       go_roundg k1
       case measure => have := HK1.out; omega
       case rel => exact ⟨(y269), (wrap64 (x5_1 + 1)), (by first | rfl | (simp; done) | (simp [*]; done)), H', ⟨by have := HK1.out; omega⟩, ⟨by (with_reducible repeat (first | apply Kd.R_alloc | apply Kd.R_drewN | apply Kd.R_drew)); exact HO271.out⟩, ⟨by (with_reducible repeat (first | apply Kd.R_alloc | apply Kd.R_drewN | apply Kd.R_drew)); exact Kd.R_mono HO_4.out (fun _ hk => hk.2)⟩, ⟨by repeat (first | (with_reducible first | exact HB.out | apply za2 | apply za1 | apply za3) | exact HB.out)⟩⟩
      ·
       rw [if_neg c8] at H
       exact absurd H (by simp)
    ·
     rw [if_neg c5] at H
     exact absurd H (by simp)
   ·
    rw [if_neg c4] at H
    have c4b0 : decide (x5_1 < (t264.length : Int)) = false := decide_eq_false c4
    clear c4
    obtain rfl := Option.some.inj H
    obtain ⟨Ao11, co11, eo11⟩ := Kd.R_slice HO_4.out
    subst eo11
    go_wp2
    go_ret
    exact ⟨_, by first | rfl | (simp [zac, zab] <;> rfl) | (simp [*, zac, zab] <;> rfl), by (with_reducible repeat (first | apply Kd.R_alloc | apply Kd.R_drewN | apply Kd.R_drew)); exact Kd.R_mono HO_3.out (fun _ hk => trivial), by repeat (first | (with_reducible first | exact HB.out | apply za2 | apply za1 | apply za3) | exact HB.out)⟩
end
end Go.Proofs.YtmbndijbpgobeaaGreat.PWalk
end
section
namespace Go.Proofs.YtmbndijbpgobeaaGreat.PWalk
section

end
end Go.Proofs.YtmbndijbpgobeaaGreat.PWalk
end
section
namespace Go.Proofs.YtmbndijbpgobeaaGreat.PWalk
open Go.RowKit Go.Proofs.YtmbndijbpgobeaaGreatW.PrintWords Go.Proofs.YtmbndijbpgobeaaGreatW.PrintLast Go.Proofs.YtmbndijbpgobeaaGreatW.PrintMore
attribute [local go_sem] max2_int max_two
set_option linter.unusedVariables false
set_option linter.unusedSimpArgs false
section
def edit_Insert.f (l0 : List (S53)) (a1_0 : Int) (a1_1 : Int) (a2 : Int) (l3 : List Int) : Option ((List (S53)) × Int) := (edit_Replace.f l0 a1_0 a1_1 a2 0 l3).bind fun bt192 => (some (bt192.1, bt192.2))
set_option maxHeartbeats 8000000 in
set_option maxRecDepth 100000 in
theorem edit_Insert.calls (A0 : Option Addr) (c0 : Nat) (l0 : List (S53)) (a1_0 : Int) (a1_1 : Int) (a2 : Int) (A3 : Option Addr) (c3 : Nat) (l3 : List Int) (r1 : List (S53)) (r2 : Int) (w : World) (hr0 : Kd.C k53 w A0 l0.length l0) (hc0 : l0.length ≤ c0) (hr3 : Kd.C (Kd.int .i32) w A3 l3.length l3) (hc3 : l3.length ≤ c3) (h : edit_Insert.f l0 a1_0 a1_1 a2 l3 = some (r1, r2)) :
  Calls Tryz.prog 14 #[.slice A0 l0.length c0, .agg #[.int .i64 a1_0, .int .i64 a1_1], .int .i64 a2, .slice A3 l3.length c3] w fun e w' => ∃ v0_ : Value, e = .returned (.tuple #[v0_, .int .i64 r2]) ∧ Kd.R k53 53 w' w.heap.size (fun _ => True) v0_ r1 ∧ Below w.heap.size w w' := by
 have hu25 := Tryz.underlying25
 have HR0 := za0.mk hr0
 have HC0 := za0.mk hc0
 clear hr0 hc0
 have HR3 := za0.mk hr3
 have HC3 := za0.mk hc3
 clear hr3 hc3
 have HB := za0.mk (Below.refl w.heap.size w)
 have H : ((edit_Replace.f l0 a1_0 a1_1 a2 0 l3).bind fun bt192 => (some (bt192.1, bt192.2))) = some (r1, r2) := h
 clear h
 replace H := Option.bind_eq_some_iff.mp H
 obtain ⟨⟨t192, t195⟩, A50, H⟩ := H
 replace H : (some (t192, t195)) = some (r1, r2) := H
 have A5 := za0.mk A50
 clear A50
 simp only [Option.some.injEq, Prod.mk.injEq] at H
 obtain ⟨rfl, rfl⟩ := H
 go_enter Tryz.func14, Tryz.ntmps14
 go_wp2_with (first | ((with_reducible refine zaq (N := 5) rfl ?_); refine zao ?hg (N := 5) ?hd (cs := #[.int .i64 a1_0, .int .i64 a1_1]) (t := 25) ?hr ?_; (case hd => rfl); (case hg => rfl); (case hr => first | (go_simp; done) | (go_simp; rfl)); intro gb191 hg w6 hbox hb; have n0_ := za0.mk (zaa (by repeat (first | (with_reducible first | exact HB.out | apply za2 | apply za1 | apply za3) | exact HB.out)) hb); have n1_ := za0.mk (hbox); have n2_ := za0.mk ((by rw [hg]; exact (za8 (by repeat (first | (with_reducible first | exact HB.out | apply za2 | apply za1 | apply za3) | exact HB.out))) : w.heap.size ≤ gb191)); have n3_ := za0.mk ((by rw [hg]; exact (za8 (by repeat (first | (with_reducible first | exact HB.out | apply za2 | apply za1 | apply za3) | exact HB.out))) : w.heap.size ≤ gb191)); clear HB; have HB := n0_; have BK191 := n1_; have GW191 := n2_; have GE191 := n3_; clear n0_ n1_ n2_ n3_; clear hb hbox hg; have hcz7_0 : w6.cell? ⟨gb191, 0, none⟩ = some (.int .i64 a1_0) := (za4 BK191.out 0).trans rfl; have hcz7_1 : w6.cell? ⟨gb191, 1, none⟩ = some (.int .i64 a1_1) := (za4 BK191.out 1).trans rfl; have hfz7_0 := za6 BK191.out 0; have hfz7_1 := za6 BK191.out 1) | ((with_reducible refine zah (f := 22) rfl ?_); refine zar (some 14) rfl rfl Tryz.func22 (by kernel_rfl) rfl #[.slice A0 l0.length c0, .agg #[.int .i64 a1_0, .int .i64 a1_1], .int .i64 a2, .int .i64 0, .slice A3 l3.length c3] rfl (by (try simp only [List.map_toArray, List.map_cons, List.map_nil]); first | done | rfl | (simp only [List.length_drop, List.length_take]; rfl)) ?_; (with_reducible refine (edit_Replace.calls _ _ l0 a1_0 a1_1 a2 0 _ _ l3 t192 t195 _ ?side1 ?side2 ?side3 ?side4 A5.out).mono ?_); (case side1 => repeat (first | exact (Kd.C_below HR0.out HB.out) | (with_reducible refine Kd.C_alloc ?_ _) | (with_reducible refine Kd.C_drewN ?_ _) | (with_reducible refine Kd.C_drew ?_))); (case side2 => exact HC0.out); (case side3 => repeat (first | exact (Kd.C_below HR3.out HB.out) | (with_reducible refine Kd.C_alloc ?_ _) | (with_reducible refine Kd.C_drewN ?_ _) | (with_reducible refine Kd.C_drew ?_))); (case side4 => exact HC3.out); rintro e w8 ⟨v193, rfl, ho0, hb⟩; refine ⟨_, rfl, ?_⟩; have n0_ := za0.mk (Kd.R_lower ho0 (za8 (by repeat (first | (with_reducible first | exact HB.out | apply za2 | apply za1 | apply za3 | refine zae ?_ GE191.out) | exact HB.out)))); have n1_ := za0.mk (blk_below (g := gb191) (o := .cells #[.int .i64 a1_0, .int .i64 a1_1] 25 (0, 0)) (by (with_reducible repeat (first | refine zaj ?_ _ | refine zai ?_ | refine zad ?_ _)); exact BK191.out) hb); have n2_ := za0.mk (zaa (by repeat (first | (with_reducible first | exact HB.out | apply za2 | apply za1 | apply za3 | refine zae ?_ GE191.out) | exact HB.out)) hb); clear BK191; clear HB; have HO194 := n0_; have BK191 := n1_; have HB := n2_; clear n0_ n1_ n2_; (try clear hb); (try clear hb2); (try clear hk); (try clear hi); (try clear ho0)))
 go_ret2
 exact ⟨_, by first | rfl | (simp [zac, zab] <;> rfl) | (simp [*, zac, zab] <;> rfl), by (with_reducible repeat (first | apply Kd.R_alloc | apply Kd.R_drewN | apply Kd.R_drew)); exact HO194.out, by repeat (first | (with_reducible first | exact HB.out | apply za2 | apply za1 | apply za3 | refine zae ?_ GE191.out) | exact HB.out)⟩
end
end Go.Proofs.YtmbndijbpgobeaaGreat.PWalk
end
section
namespace Go.Proofs.YtmbndijbpgobeaaGreat.PWalk
open Go.RowKit Go.Proofs.YtmbndijbpgobeaaGreatW.PrintWords Go.Proofs.YtmbndijbpgobeaaGreatW.PrintLast Go.Proofs.YtmbndijbpgobeaaGreatW.PrintMore
attribute [local go_sem] max2_int max_two
set_option linter.unusedVariables false
set_option linter.unusedSimpArgs false
attribute [local go_sem high] eqA53
section
def redpencilref14_Same.l0 : Nat → List (S53) → List (S53) → Int → Option (Bool)
 | 0, _, _, _ => none
 | k + 1, x0, x1, x5 => if x5 < (x0.length : Int) then (if 0 ≤ x5 then (if x5 < (x1.length : Int) then (if ((!(((za9 x0 x5).f0.f0) == ((za9 x1 x5).f0.f0)) || (!(((za9 x0 x5).f0.f1) == ((za9 x1 x5).f0.f1)))) || ((!(((za9 x0 x5).f1.f0) == ((za9 x1 x5).f1.f0)) || (!(((za9 x0 x5).f1.f1) == ((za9 x1 x5).f1.f1)))) || (!(((za9 x0 x5).f2) == ((za9 x1 x5).f2)) || (!(((za9 x0 x5).f3) == ((za9 x1 x5).f3)))))) = true then (some false) else (redpencilref14_Same.l0 k x0 x1 (wrap64 (x5 + 1)))) else (none)) else (none)) else (some true)
def redpencilref14_Same.f (k : Nat) (l0 : List (S53)) (l1 : List (S53)) : Option (Bool) := if (l0.length : Int) = (l1.length : Int) then (redpencilref14_Same.l0 k l0 l1 0) else (some false)
set_option maxHeartbeats 8000000 in
set_option maxRecDepth 100000 in
theorem redpencilref14_Same.calls (k : Nat) (A0 : Option Addr) (c0 : Nat) (l0 : List (S53)) (A1 : Option Addr) (c1 : Nat) (l1 : List (S53)) (r : Bool) (w : World) (hr0 : Kd.C k53 w A0 l0.length l0) (hc0 : l0.length ≤ c0) (hr1 : Kd.C k53 w A1 l1.length l1) (hc1 : l1.length ≤ c1) (h : redpencilref14_Same.f k l0 l1 = some r) :
  Calls Tryz.prog 20 #[.slice A0 l0.length c0, .slice A1 l1.length c1] w fun e w' => e = .returned (.bool r) ∧ zam w w' := by
 have hu53 := Tryz.underlying53
 have HR0 := za0.mk hr0
 have HC0 := za0.mk hc0
 clear hr0 hc0
 have HR1 := za0.mk hr1
 have HC1 := za0.mk hc1
 clear hr1 hc1
 have H : (if (l0.length : Int) = (l1.length : Int) then (redpencilref14_Same.l0 k l0 l1 0) else (some false)) = some r := h
 clear h
 by_cases c3 : (l0.length : Int) = (l1.length : Int)
 ·
  rw [if_pos c3] at H
  have c3b0 : ((l0.length : Int) == (l1.length : Int)) = true := beq_iff_eq.mpr c3
  have c3b1 : ((l0.length : Int) != (l1.length : Int)) = false := bne_eq_false_iff_eq.mpr c3
  have c3b2 : (l0.length == l1.length) = true := by first | simpa using c3 | (simp at c3 ⊢; omega)
  clear c3
  have H' := za0.mk H
  clear H
  go_enter Tryz.func20, Tryz.ntmps20
  go_wp2
  repeat (go_quiet (fail); try go_wp2)
  go_loopg [5] k (fun kq v5 w' => ∃ (x5_1 : Int), v5 = .int .i64 x5_1 ∧ za0 (redpencilref14_Same.l0 kq l0 l1 x5_1 = some r) ∧ za0 (kq ≤ k) ∧ zam w w')
  case atStart => exact ⟨(0), (by first | rfl | (simp; done) | (simp [*]; done)), H', ⟨Nat.le_refl _⟩, by repeat (first | exact zam.refl _ | apply zam.step)⟩
  case round =>
   clear H'
   try clear c1
   try clear c2
   try clear p2
   try clear c3
   try clear c3b0
   try clear c3b1
   try clear c3b2
   obtain ⟨x5_1, rfl, HA, HK1, ⟨m1, rfl⟩⟩ := hrel
   cases gk with
   | zero => exact absurd HA.out (by simp [redpencilref14_Same.l0])
   | succ k1 =>
    have H := HA.out
    clear HA
    simp only [redpencilref14_Same.l0] at H
    by_cases c4 : x5_1 < (l0.length : Int)
    ·
     rw [if_pos c4] at H
     have c4b0 : decide (x5_1 < (l0.length : Int)) = true := decide_eq_true c4
     clear c4
     by_cases c5 : 0 ≤ x5_1
     ·
      rw [if_pos c5] at H
      have c5b0 : decide (0 ≤ x5_1) = true := decide_eq_true c5
      clear c5
      by_cases c6 : x5_1 < (l1.length : Int)
      ·
       rw [if_pos c6] at H
       have c6b0 : decide (x5_1 < (l1.length : Int)) = true := decide_eq_true c6
       clear c6
       by_cases c7 : ((!(((za9 l0 x5_1).f0.f0) == ((za9 l1 x5_1).f0.f0)) || (!(((za9 l0 x5_1).f0.f1) == ((za9 l1 x5_1).f0.f1)))) || ((!(((za9 l0 x5_1).f1.f0) == ((za9 l1 x5_1).f1.f0)) || (!(((za9 l0 x5_1).f1.f1) == ((za9 l1 x5_1).f1.f1)))) || (!(((za9 l0 x5_1).f2) == ((za9 l1 x5_1).f2)) || (!(((za9 l0 x5_1).f3) == ((za9 l1 x5_1).f3)))))) = true
       ·
        rw [if_pos c7] at H
        have c7b0 : ((!(((za9 l0 x5_1).f0.f0) == ((za9 l1 x5_1).f0.f0)) || (!(((za9 l0 x5_1).f0.f1) == ((za9 l1 x5_1).f0.f1)))) || ((!(((za9 l0 x5_1).f1.f0) == ((za9 l1 x5_1).f1.f0)) || (!(((za9 l0 x5_1).f1.f1) == ((za9 l1 x5_1).f1.f1)))) || (!(((za9 l0 x5_1).f2) == ((za9 l1 x5_1).f2)) || (!(((za9 l0 x5_1).f3) == ((za9 l1 x5_1).f3)))))) = true := c7
        clear c7
        obtain rfl := Option.some.inj H
        have p196 : 0 ≤ (x5_1 : Int) := of_decide_eq_true (by first | (with_reducible assumption) | assumption)
        have q196 : x5_1 < (l0.length : Int) := of_decide_eq_true (by first | (with_reducible assumption) | assumption)
        obtain ⟨ad196, e196, hx196_0, hx196_1, hx196_2, hx196_3, hx196_4, hx196_5⟩ := at_T53 HR0.out x5_1 p196 q196
        cases e196
        replace p196 := eq_true p196
        replace q196 := eq_true q196
        have p197 : 0 ≤ (x5_1 : Int) := of_decide_eq_true (by first | (with_reducible assumption) | assumption)
        have q197 : x5_1 < (l1.length : Int) := of_decide_eq_true (by first | (with_reducible assumption) | assumption)
        obtain ⟨ad197, e197, hx197_0, hx197_1, hx197_2, hx197_3, hx197_4, hx197_5⟩ := at_T53 HR1.out x5_1 p197 q197
        cases e197
        replace p197 := eq_true p197
        replace q197 := eq_true q197
        go_wp2
        repeat (go_quiet (fail); try go_wp2)
        go_ret
        exact ⟨by first | rfl | (simp; done) | (simp [*]; done), by repeat (first | exact zam.refl _ | apply zam.step)⟩
       ·
        rw [if_neg c7] at H
        have c7b0 : ((!(((za9 l0 x5_1).f0.f0) == ((za9 l1 x5_1).f0.f0)) || (!(((za9 l0 x5_1).f0.f1) == ((za9 l1 x5_1).f0.f1)))) || ((!(((za9 l0 x5_1).f1.f0) == ((za9 l1 x5_1).f1.f0)) || (!(((za9 l0 x5_1).f1.f1) == ((za9 l1 x5_1).f1.f1)))) || (!(((za9 l0 x5_1).f2) == ((za9 l1 x5_1).f2)) || (!(((za9 l0 x5_1).f3) == ((za9 l1 x5_1).f3)))))) = false := by simpa using c7
        clear c7
        have H' := za0.mk H
        clear H
        have p196 : 0 ≤ (x5_1 : Int) := of_decide_eq_true (by first | (with_reducible assumption) | assumption)
        have q196 : x5_1 < (l0.length : Int) := of_decide_eq_true (by first | (with_reducible assumption) | assumption)
        obtain ⟨ad196, e196, hx196_0, hx196_1, hx196_2, hx196_3, hx196_4, hx196_5⟩ := at_T53 HR0.out x5_1 p196 q196
        cases e196
        replace p196 := eq_true p196
        replace q196 := eq_true q196
        have p197 : 0 ≤ (x5_1 : Int) := of_decide_eq_true (by first | (with_reducible assumption) | assumption)
        have q197 : x5_1 < (l1.length : Int) := of_decide_eq_true (by first | (with_reducible assumption) | assumption)
        obtain ⟨ad197, e197, hx197_0, hx197_1, hx197_2, hx197_3, hx197_4, hx197_5⟩ := at_T53 HR1.out x5_1 p197 q197
        cases e197
        replace p197 := eq_true p197
        replace q197 := eq_true q197
        go_wp2
        repeat (go_quiet (fail); try go_wp2)
        go_roundg k1
        case measure => have := HK1.out; omega
        case rel => exact ⟨(wrap64 (x5_1 + 1)), (by first | rfl | (simp; done) | (simp [*]; done)), H', ⟨by have := HK1.out; omega⟩, by repeat (first | exact zam.refl _ | apply zam.step)⟩
      ·
       rw [if_neg c6] at H
       exact absurd H (by simp)
     ·
      rw [if_neg c5] at H
      exact absurd H (by simp)
    ·
     rw [if_neg c4] at H
     have c4b0 : decide (x5_1 < (l0.length : Int)) = false := decide_eq_false c4
     clear c4
     obtain rfl := Option.some.inj H
     go_wp2
     repeat (go_quiet (fail); try go_wp2)
     go_ret
     exact ⟨by first | rfl | (simp; done) | (simp [*]; done), by repeat (first | exact zam.refl _ | apply zam.step)⟩
 ·
  rw [if_neg c3] at H
  have c3b0 : ((l0.length : Int) == (l1.length : Int)) = false := beq_eq_false_iff_ne.mpr c3
  have c3b1 : ((l0.length : Int) != (l1.length : Int)) = true := bne_iff_ne.mpr c3
  have c3b2 : (l0.length == l1.length) = false := by first | simpa using c3 | (simp at c3 ⊢; omega)
  obtain rfl := Option.some.inj H
  go_enter Tryz.func20, Tryz.ntmps20
  go_wp2
  repeat (go_quiet (fail); try go_wp2)
  go_ret
  exact ⟨by first | rfl | (simp; done) | (simp [*]; done), by repeat (first | exact zam.refl _ | apply zam.step)⟩
def redpencillaw15_inserts.f (k : Nat) (l0 : List (S53)) (a1_0 : Int) (a1_1 : Int) (a2 : Int) (l3 : List Int) (l4 : List (S53)) (a5 : Int) : Option (Bool) := (edit_Insert.f l0 a1_0 a1_1 a2 l3).bind fun bt199 => ((redpencilref14_Same.f k bt199.1 l4).bind fun t203 => (if t203 = true then (some (bt199.2 == a5)) else (some false)))
set_option maxHeartbeats 8000000 in
set_option maxRecDepth 100000 in
theorem redpencillaw15_inserts.calls (k : Nat) (A0 : Option Addr) (c0 : Nat) (l0 : List (S53)) (a1_0 : Int) (a1_1 : Int) (a2 : Int) (A3 : Option Addr) (c3 : Nat) (l3 : List Int) (A4 : Option Addr) (c4 : Nat) (l4 : List (S53)) (a5 : Int) (r : Bool) (w : World) (hr0 : Kd.C k53 w A0 l0.length l0) (hc0 : l0.length ≤ c0) (hr3 : Kd.C (Kd.int .i32) w A3 l3.length l3) (hc3 : l3.length ≤ c3) (hr4 : Kd.C k53 w A4 l4.length l4) (hc4 : l4.length ≤ c4) (h : redpencillaw15_inserts.f k l0 a1_0 a1_1 a2 l3 l4 a5 = some r) :
  Calls Tryz.prog 13 #[.slice A0 l0.length c0, .agg #[.int .i64 a1_0, .int .i64 a1_1], .int .i64 a2, .slice A3 l3.length c3, .slice A4 l4.length c4, .int .i64 a5] w fun e w' => e = .returned (.bool r) ∧ Below w.heap.size w w' := by
 have hu25 := Tryz.underlying25
 have HR0 := za0.mk hr0
 have HC0 := za0.mk hc0
 clear hr0 hc0
 have HR3 := za0.mk hr3
 have HC3 := za0.mk hc3
 clear hr3 hc3
 have HR4 := za0.mk hr4
 have HC4 := za0.mk hc4
 clear hr4 hc4
 have HB := za0.mk (Below.refl w.heap.size w)
 have H : ((edit_Insert.f l0 a1_0 a1_1 a2 l3).bind fun bt199 => ((redpencilref14_Same.f k bt199.1 l4).bind fun t203 => (if t203 = true then (some (bt199.2 == a5)) else (some false)))) = some r := h
 clear h
 replace H := Option.bind_eq_some_iff.mp H
 obtain ⟨⟨t199, t202⟩, A70, H⟩ := H
 replace H : ((redpencilref14_Same.f k t199 l4).bind fun t203 => (if t203 = true then (some (t202 == a5)) else (some false))) = some r := H
 have A7 := za0.mk A70
 clear A70
 replace H := Option.bind_eq_some_iff.mp H
 obtain ⟨t203, A80, H⟩ := H
 replace H : (if t203 = true then (some (t202 == a5)) else (some false)) = some r := H
 have A8 := za0.mk A80
 clear A80
 by_cases c9 : t203 = true
 ·
  subst c9
  have H1 : (some (t202 == a5)) = some r := by rw [if_pos rfl] at H; exact H
  clear H
  have H := H1
  clear H1
  obtain rfl := Option.some.inj H
  go_enter Tryz.func13, Tryz.ntmps13
  go_wp2_with (first | ((with_reducible refine zaq (N := 7) rfl ?_); refine zao ?hg (N := 7) ?hd (cs := #[.int .i64 a1_0, .int .i64 a1_1]) (t := 25) ?hr ?_; (case hd => rfl); (case hg => rfl); (case hr => first | (go_simp; done) | (go_simp; rfl)); intro gb198 hg w10 hbox hb; have n0_ := za0.mk (zaa (by repeat (first | (with_reducible first | exact HB.out | apply za2 | apply za1 | apply za3) | exact HB.out)) hb); have n1_ := za0.mk (hbox); have n2_ := za0.mk ((by rw [hg]; exact (za8 (by repeat (first | (with_reducible first | exact HB.out | apply za2 | apply za1 | apply za3) | exact HB.out))) : w.heap.size ≤ gb198)); have n3_ := za0.mk ((by rw [hg]; exact (za8 (by repeat (first | (with_reducible first | exact HB.out | apply za2 | apply za1 | apply za3) | exact HB.out))) : w.heap.size ≤ gb198)); clear HB; have HB := n0_; have BK198 := n1_; have GW198 := n2_; have GE198 := n3_; clear n0_ n1_ n2_ n3_; clear hb hbox hg; have hcz11_0 : w10.cell? ⟨gb198, 0, none⟩ = some (.int .i64 a1_0) := (za4 BK198.out 0).trans rfl; have hcz11_1 : w10.cell? ⟨gb198, 1, none⟩ = some (.int .i64 a1_1) := (za4 BK198.out 1).trans rfl; have hfz11_0 := za6 BK198.out 0; have hfz11_1 := za6 BK198.out 1) | ((with_reducible refine zah (f := 14) rfl ?_); refine zar (some 20) rfl rfl Tryz.func14 (by kernel_rfl) rfl #[.slice A0 l0.length c0, .agg #[.int .i64 a1_0, .int .i64 a1_1], .int .i64 a2, .slice A3 l3.length c3] rfl (by (try simp only [List.map_toArray, List.map_cons, List.map_nil]); first | done | rfl | (simp only [List.length_drop, List.length_take]; rfl)) ?_; (with_reducible refine (edit_Insert.calls _ _ l0 a1_0 a1_1 a2 _ _ l3 t199 t202 _ ?side1 ?side2 ?side3 ?side4 A7.out).mono ?_); (case side1 => repeat (first | exact (Kd.C_below HR0.out HB.out) | (with_reducible refine Kd.C_alloc ?_ _) | (with_reducible refine Kd.C_drewN ?_ _) | (with_reducible refine Kd.C_drew ?_))); (case side2 => exact HC0.out); (case side3 => repeat (first | exact (Kd.C_below HR3.out HB.out) | (with_reducible refine Kd.C_alloc ?_ _) | (with_reducible refine Kd.C_drewN ?_ _) | (with_reducible refine Kd.C_drew ?_))); (case side4 => exact HC3.out); rintro e w12 ⟨v200, rfl, ho0, hb⟩; refine ⟨_, rfl, ?_⟩; have n0_ := za0.mk (Kd.R_lower ho0 (za8 (by repeat (first | (with_reducible first | exact HB.out | apply za2 | apply za1 | apply za3 | refine zae ?_ GE198.out) | exact HB.out)))); have n1_ := za0.mk (blk_below (g := gb198) (o := .cells #[.int .i64 a1_0, .int .i64 a1_1] 25 (0, 0)) (by (with_reducible repeat (first | refine zaj ?_ _ | refine zai ?_ | refine zad ?_ _)); exact BK198.out) hb); have n2_ := za0.mk (zaa (by repeat (first | (with_reducible first | exact HB.out | apply za2 | apply za1 | apply za3 | refine zae ?_ GE198.out) | exact HB.out)) hb); clear BK198; clear HB; have HO201 := n0_; have BK198 := n1_; have HB := n2_; clear n0_ n1_ n2_; (try clear hb); (try clear hb2); (try clear hk); (try clear hi); (try clear ho0); obtain ⟨Ao13, co13, eo13⟩ := Kd.R_slice HO201.out; subst eo13) | ((with_reducible refine zah (f := 20) rfl ?_); refine zar (some 25) rfl rfl Tryz.func20 (by kernel_rfl) rfl #[.slice Ao13 t199.length co13, .slice A4 l4.length c4] rfl (by (try simp only [List.map_toArray, List.map_cons, List.map_nil]); first | done | rfl | (simp only [List.length_drop, List.length_take]; rfl)) ?_; (with_reducible refine (redpencilref14_Same.calls k _ _ t199 _ _ l4 true _ ?side1 ?side2 ?side3 ?side4 A8.out).mono ?_); (case side1 => repeat (first | exact (Kd.R_reads' HO201.out).2.2 | (with_reducible refine Kd.C_alloc ?_ _) | (with_reducible refine Kd.C_drewN ?_ _) | (with_reducible refine Kd.C_drew ?_))); (case side2 => exact (Kd.R_reads' HO201.out).2.1); (case side3 => repeat (first | exact (Kd.C_below HR4.out HB.out) | (with_reducible refine Kd.C_alloc ?_ _) | (with_reducible refine Kd.C_drewN ?_ _) | (with_reducible refine Kd.C_drew ?_))); (case side4 => exact HC4.out); rintro e w' ⟨rfl, ⟨nd, rfl⟩⟩; refine ⟨_, rfl, ?_⟩))
  go_ret
  exact ⟨by first | rfl | (simp [zac, zab] <;> rfl) | (simp [*, zac, zab] <;> rfl), by repeat (first | (with_reducible first | exact HB.out | apply za2 | apply za1 | apply za3 | refine zae ?_ GE198.out) | exact HB.out)⟩
 ·
  replace c9 := Bool.eq_false_iff.mpr c9
  subst c9
  have H1 : (some false) = some r := by rw [if_neg (show ¬ (false = true) by decide)] at H; exact H
  clear H
  have H := H1
  clear H1
  obtain rfl := Option.some.inj H
  go_enter Tryz.func13, Tryz.ntmps13
  go_wp2_with (first | ((with_reducible refine zaq (N := 7) rfl ?_); refine zao ?hg (N := 7) ?hd (cs := #[.int .i64 a1_0, .int .i64 a1_1]) (t := 25) ?hr ?_; (case hd => rfl); (case hg => rfl); (case hr => first | (go_simp; done) | (go_simp; rfl)); intro gb198 hg w14 hbox hb; have n0_ := za0.mk (zaa (by repeat (first | (with_reducible first | exact HB.out | apply za2 | apply za1 | apply za3) | exact HB.out)) hb); have n1_ := za0.mk (hbox); have n2_ := za0.mk ((by rw [hg]; exact (za8 (by repeat (first | (with_reducible first | exact HB.out | apply za2 | apply za1 | apply za3) | exact HB.out))) : w.heap.size ≤ gb198)); have n3_ := za0.mk ((by rw [hg]; exact (za8 (by repeat (first | (with_reducible first | exact HB.out | apply za2 | apply za1 | apply za3) | exact HB.out))) : w.heap.size ≤ gb198)); clear HB; have HB := n0_; have BK198 := n1_; have GW198 := n2_; have GE198 := n3_; clear n0_ n1_ n2_ n3_; clear hb hbox hg; have hcz15_0 : w14.cell? ⟨gb198, 0, none⟩ = some (.int .i64 a1_0) := (za4 BK198.out 0).trans rfl; have hcz15_1 : w14.cell? ⟨gb198, 1, none⟩ = some (.int .i64 a1_1) := (za4 BK198.out 1).trans rfl; have hfz15_0 := za6 BK198.out 0; have hfz15_1 := za6 BK198.out 1) | ((with_reducible refine zah (f := 14) rfl ?_); refine zar (some 20) rfl rfl Tryz.func14 (by kernel_rfl) rfl #[.slice A0 l0.length c0, .agg #[.int .i64 a1_0, .int .i64 a1_1], .int .i64 a2, .slice A3 l3.length c3] rfl (by (try simp only [List.map_toArray, List.map_cons, List.map_nil]); first | done | rfl | (simp only [List.length_drop, List.length_take]; rfl)) ?_; (with_reducible refine (edit_Insert.calls _ _ l0 a1_0 a1_1 a2 _ _ l3 t199 t202 _ ?side1 ?side2 ?side3 ?side4 A7.out).mono ?_); (case side1 => repeat (first | exact (Kd.C_below HR0.out HB.out) | (with_reducible refine Kd.C_alloc ?_ _) | (with_reducible refine Kd.C_drewN ?_ _) | (with_reducible refine Kd.C_drew ?_))); (case side2 => exact HC0.out); (case side3 => repeat (first | exact (Kd.C_below HR3.out HB.out) | (with_reducible refine Kd.C_alloc ?_ _) | (with_reducible refine Kd.C_drewN ?_ _) | (with_reducible refine Kd.C_drew ?_))); (case side4 => exact HC3.out); rintro e w16 ⟨v200, rfl, ho0, hb⟩; refine ⟨_, rfl, ?_⟩; have n0_ := za0.mk (Kd.R_lower ho0 (za8 (by repeat (first | (with_reducible first | exact HB.out | apply za2 | apply za1 | apply za3 | refine zae ?_ GE198.out) | exact HB.out)))); have n1_ := za0.mk (blk_below (g := gb198) (o := .cells #[.int .i64 a1_0, .int .i64 a1_1] 25 (0, 0)) (by (with_reducible repeat (first | refine zaj ?_ _ | refine zai ?_ | refine zad ?_ _)); exact BK198.out) hb); have n2_ := za0.mk (zaa (by repeat (first | (with_reducible first | exact HB.out | apply za2 | apply za1 | apply za3 | refine zae ?_ GE198.out) | exact HB.out)) hb); clear BK198; clear HB; have HO201 := n0_; have BK198 := n1_; have HB := n2_; clear n0_ n1_ n2_; (try clear hb); (try clear hb2); (try clear hk); (try clear hi); (try clear ho0); obtain ⟨Ao17, co17, eo17⟩ := Kd.R_slice HO201.out; subst eo17) | ((with_reducible refine zah (f := 20) rfl ?_); refine zar (some 25) rfl rfl Tryz.func20 (by kernel_rfl) rfl #[.slice Ao17 t199.length co17, .slice A4 l4.length c4] rfl (by (try simp only [List.map_toArray, List.map_cons, List.map_nil]); first | done | rfl | (simp only [List.length_drop, List.length_take]; rfl)) ?_; (with_reducible refine (redpencilref14_Same.calls k _ _ t199 _ _ l4 false _ ?side1 ?side2 ?side3 ?side4 A8.out).mono ?_); (case side1 => repeat (first | exact (Kd.R_reads' HO201.out).2.2 | (with_reducible refine Kd.C_alloc ?_ _) | (with_reducible refine Kd.C_drewN ?_ _) | (with_reducible refine Kd.C_drew ?_))); (case side2 => exact (Kd.R_reads' HO201.out).2.1); (case side3 => repeat (first | exact (Kd.C_below HR4.out HB.out) | (with_reducible refine Kd.C_alloc ?_ _) | (with_reducible refine Kd.C_drewN ?_ _) | (with_reducible refine Kd.C_drew ?_))); (case side4 => exact HC4.out); rintro e w' ⟨rfl, ⟨nd, rfl⟩⟩; refine ⟨_, rfl, ?_⟩))
  go_ret
  exact ⟨by first | rfl | (simp [zac, zab] <;> rfl) | (simp [*, zac, zab] <;> rfl), by repeat (first | (with_reducible first | exact HB.out | apply za2 | apply za1 | apply za3 | refine zae ?_ GE198.out) | exact HB.out)⟩
def redpencillaw15_deletes.f (k : Nat) (l0 : List (S53)) (a1 : Int) (a2 : Int) (l3 : List (S53)) (a4 : Int) : Option (Bool) := (edit_Delete.f l0 a1 a2).bind fun bt204 => ((redpencilref14_Same.f k bt204.1 l3).bind fun t208 => (if t208 = true then (some (bt204.2 == a4)) else (some false)))
set_option maxHeartbeats 8000000 in
set_option maxRecDepth 100000 in
theorem redpencillaw15_deletes.calls (k : Nat) (A0 : Option Addr) (c0 : Nat) (l0 : List (S53)) (a1 : Int) (a2 : Int) (A3 : Option Addr) (c3 : Nat) (l3 : List (S53)) (a4 : Int) (r : Bool) (w : World) (hr0 : Kd.C k53 w A0 l0.length l0) (hc0 : l0.length ≤ c0) (hr3 : Kd.C k53 w A3 l3.length l3) (hc3 : l3.length ≤ c3) (h : redpencillaw15_deletes.f k l0 a1 a2 l3 a4 = some r) :
  Calls Tryz.prog 18 #[.slice A0 l0.length c0, .int .i64 a1, .int .i64 a2, .slice A3 l3.length c3, .int .i64 a4] w fun e w' => e = .returned (.bool r) ∧ Below w.heap.size w w' := by
 have HR0 := za0.mk hr0
 have HC0 := za0.mk hc0
 clear hr0 hc0
 have HR3 := za0.mk hr3
 have HC3 := za0.mk hc3
 clear hr3 hc3
 have HB := za0.mk (Below.refl w.heap.size w)
 have H : ((edit_Delete.f l0 a1 a2).bind fun bt204 => ((redpencilref14_Same.f k bt204.1 l3).bind fun t208 => (if t208 = true then (some (bt204.2 == a4)) else (some false)))) = some r := h
 clear h
 replace H := Option.bind_eq_some_iff.mp H
 obtain ⟨⟨t204, t205⟩, A60, H⟩ := H
 replace H : ((redpencilref14_Same.f k t204 l3).bind fun t208 => (if t208 = true then (some (t205 == a4)) else (some false))) = some r := H
 have A6 := za0.mk A60
 clear A60
 replace H := Option.bind_eq_some_iff.mp H
 obtain ⟨t208, A70, H⟩ := H
 replace H : (if t208 = true then (some (t205 == a4)) else (some false)) = some r := H
 have A7 := za0.mk A70
 clear A70
 by_cases c8 : t208 = true
 ·
  subst c8
  have H1 : (some (t205 == a4)) = some r := by rw [if_pos rfl] at H; exact H
  clear H
  have H := H1
  clear H1
  obtain rfl := Option.some.inj H
  go_enter Tryz.func18, Tryz.ntmps18
  go_wp2_with (first | ((with_reducible refine zah (f := 19) rfl ?_); refine zar (some 17) rfl rfl Tryz.func19 (by kernel_rfl) rfl #[.slice A0 l0.length c0, .int .i64 a1, .int .i64 a2] rfl (by (try simp only [List.map_toArray, List.map_cons, List.map_nil]); first | done | rfl | (simp only [List.length_drop, List.length_take]; rfl)) ?_; (with_reducible refine (edit_Delete.calls _ _ l0 a1 a2 t204 t205 _ ?side1 ?side2 A6.out).mono ?_); (case side1 => repeat (first | exact HR0.out | (with_reducible refine Kd.C_alloc ?_ _) | (with_reducible refine Kd.C_drewN ?_ _) | (with_reducible refine Kd.C_drew ?_))); (case side2 => exact HC0.out); rintro e w9 ⟨v206, rfl, ho0, hb⟩; refine ⟨_, rfl, ?_⟩; have n0_ := za0.mk (Kd.R_lower ho0 (za8 (by repeat (first | (with_reducible first | exact HB.out | apply za2 | apply za1 | apply za3) | exact HB.out)))); have n1_ := za0.mk (zaa (by repeat (first | (with_reducible first | exact HB.out | apply za2 | apply za1 | apply za3) | exact HB.out)) hb); clear HB; have HO207 := n0_; have HB := n1_; clear n0_ n1_; (try clear hb); (try clear hb2); (try clear hk); (try clear hi); (try clear ho0); obtain ⟨Ao10, co10, eo10⟩ := Kd.R_slice HO207.out; subst eo10) | ((with_reducible refine zah (f := 20) rfl ?_); refine zar (some 22) rfl rfl Tryz.func20 (by kernel_rfl) rfl #[.slice Ao10 t204.length co10, .slice A3 l3.length c3] rfl (by (try simp only [List.map_toArray, List.map_cons, List.map_nil]); first | done | rfl | (simp only [List.length_drop, List.length_take]; rfl)) ?_; (with_reducible refine (redpencilref14_Same.calls k _ _ t204 _ _ l3 true _ ?side1 ?side2 ?side3 ?side4 A7.out).mono ?_); (case side1 => repeat (first | exact (Kd.R_reads' HO207.out).2.2 | (with_reducible refine Kd.C_alloc ?_ _) | (with_reducible refine Kd.C_drewN ?_ _) | (with_reducible refine Kd.C_drew ?_))); (case side2 => exact (Kd.R_reads' HO207.out).2.1); (case side3 => repeat (first | exact (Kd.C_below HR3.out HB.out) | (with_reducible refine Kd.C_alloc ?_ _) | (with_reducible refine Kd.C_drewN ?_ _) | (with_reducible refine Kd.C_drew ?_))); (case side4 => exact HC3.out); rintro e w' ⟨rfl, ⟨nd, rfl⟩⟩; refine ⟨_, rfl, ?_⟩))
  go_ret
  exact ⟨by first | rfl | (simp [zac, zab] <;> rfl) | (simp [*, zac, zab] <;> rfl), by repeat (first | (with_reducible first | exact HB.out | apply za2 | apply za1 | apply za3) | exact HB.out)⟩
 ·
  replace c8 := Bool.eq_false_iff.mpr c8
  subst c8
  have H1 : (some false) = some r := by rw [if_neg (show ¬ (false = true) by decide)] at H; exact H
  clear H
  have H := H1
  clear H1
  obtain rfl := Option.some.inj H
  go_enter Tryz.func18, Tryz.ntmps18
  go_wp2_with (first | ((with_reducible refine zah (f := 19) rfl ?_); refine zar (some 17) rfl rfl Tryz.func19 (by kernel_rfl) rfl #[.slice A0 l0.length c0, .int .i64 a1, .int .i64 a2] rfl (by (try simp only [List.map_toArray, List.map_cons, List.map_nil]); first | done | rfl | (simp only [List.length_drop, List.length_take]; rfl)) ?_; (with_reducible refine (edit_Delete.calls _ _ l0 a1 a2 t204 t205 _ ?side1 ?side2 A6.out).mono ?_); (case side1 => repeat (first | exact HR0.out | (with_reducible refine Kd.C_alloc ?_ _) | (with_reducible refine Kd.C_drewN ?_ _) | (with_reducible refine Kd.C_drew ?_))); (case side2 => exact HC0.out); rintro e w11 ⟨v206, rfl, ho0, hb⟩; refine ⟨_, rfl, ?_⟩; have n0_ := za0.mk (Kd.R_lower ho0 (za8 (by repeat (first | (with_reducible first | exact HB.out | apply za2 | apply za1 | apply za3) | exact HB.out)))); have n1_ := za0.mk (zaa (by repeat (first | (with_reducible first | exact HB.out | apply za2 | apply za1 | apply za3) | exact HB.out)) hb); clear HB; have HO207 := n0_; have HB := n1_; clear n0_ n1_; (try clear hb); (try clear hb2); (try clear hk); (try clear hi); (try clear ho0); obtain ⟨Ao12, co12, eo12⟩ := Kd.R_slice HO207.out; subst eo12) | ((with_reducible refine zah (f := 20) rfl ?_); refine zar (some 22) rfl rfl Tryz.func20 (by kernel_rfl) rfl #[.slice Ao12 t204.length co12, .slice A3 l3.length c3] rfl (by (try simp only [List.map_toArray, List.map_cons, List.map_nil]); first | done | rfl | (simp only [List.length_drop, List.length_take]; rfl)) ?_; (with_reducible refine (redpencilref14_Same.calls k _ _ t204 _ _ l3 false _ ?side1 ?side2 ?side3 ?side4 A7.out).mono ?_); (case side1 => repeat (first | exact (Kd.R_reads' HO207.out).2.2 | (with_reducible refine Kd.C_alloc ?_ _) | (with_reducible refine Kd.C_drewN ?_ _) | (with_reducible refine Kd.C_drew ?_))); (case side2 => exact (Kd.R_reads' HO207.out).2.1); (case side3 => repeat (first | exact (Kd.C_below HR3.out HB.out) | (with_reducible refine Kd.C_alloc ?_ _) | (with_reducible refine Kd.C_drewN ?_ _) | (with_reducible refine Kd.C_drew ?_))); (case side4 => exact HC3.out); rintro e w' ⟨rfl, ⟨nd, rfl⟩⟩; refine ⟨_, rfl, ?_⟩))
  go_ret
  exact ⟨by first | rfl | (simp [zac, zab] <;> rfl) | (simp [*, zac, zab] <;> rfl), by repeat (first | (with_reducible first | exact HB.out | apply za2 | apply za1 | apply za3) | exact HB.out)⟩
def redpencillaw15_replaces.f (k : Nat) (l0 : List (S53)) (a1_0 : Int) (a1_1 : Int) (a2 : Int) (a3 : Int) (l4 : List Int) (l5 : List (S53)) (a6 : Int) : Option (Bool) := (edit_Replace.f l0 a1_0 a1_1 a2 a3 l4).bind fun bt210 => ((redpencilref14_Same.f k bt210.1 l5).bind fun t214 => (if t214 = true then (some (bt210.2 == a6)) else (some false)))
set_option maxHeartbeats 8000000 in
set_option maxRecDepth 100000 in
theorem redpencillaw15_replaces.calls (k : Nat) (A0 : Option Addr) (c0 : Nat) (l0 : List (S53)) (a1_0 : Int) (a1_1 : Int) (a2 : Int) (a3 : Int) (A4 : Option Addr) (c4 : Nat) (l4 : List Int) (A5 : Option Addr) (c5 : Nat) (l5 : List (S53)) (a6 : Int) (r : Bool) (w : World) (hr0 : Kd.C k53 w A0 l0.length l0) (hc0 : l0.length ≤ c0) (hr4 : Kd.C (Kd.int .i32) w A4 l4.length l4) (hc4 : l4.length ≤ c4) (hr5 : Kd.C k53 w A5 l5.length l5) (hc5 : l5.length ≤ c5) (h : redpencillaw15_replaces.f k l0 a1_0 a1_1 a2 a3 l4 l5 a6 = some r) :
  Calls Tryz.prog 21 #[.slice A0 l0.length c0, .agg #[.int .i64 a1_0, .int .i64 a1_1], .int .i64 a2, .int .i64 a3, .slice A4 l4.length c4, .slice A5 l5.length c5, .int .i64 a6] w fun e w' => e = .returned (.bool r) ∧ Below w.heap.size w w' := by
 have hu25 := Tryz.underlying25
 have HR0 := za0.mk hr0
 have HC0 := za0.mk hc0
 clear hr0 hc0
 have HR4 := za0.mk hr4
 have HC4 := za0.mk hc4
 clear hr4 hc4
 have HR5 := za0.mk hr5
 have HC5 := za0.mk hc5
 clear hr5 hc5
 have HB := za0.mk (Below.refl w.heap.size w)
 have H : ((edit_Replace.f l0 a1_0 a1_1 a2 a3 l4).bind fun bt210 => ((redpencilref14_Same.f k bt210.1 l5).bind fun t214 => (if t214 = true then (some (bt210.2 == a6)) else (some false)))) = some r := h
 clear h
 replace H := Option.bind_eq_some_iff.mp H
 obtain ⟨⟨t210, t213⟩, A80, H⟩ := H
 replace H : ((redpencilref14_Same.f k t210 l5).bind fun t214 => (if t214 = true then (some (t213 == a6)) else (some false))) = some r := H
 have A8 := za0.mk A80
 clear A80
 replace H := Option.bind_eq_some_iff.mp H
 obtain ⟨t214, A90, H⟩ := H
 replace H : (if t214 = true then (some (t213 == a6)) else (some false)) = some r := H
 have A9 := za0.mk A90
 clear A90
 by_cases c10 : t214 = true
 ·
  subst c10
  have H1 : (some (t213 == a6)) = some r := by rw [if_pos rfl] at H; exact H
  clear H
  have H := H1
  clear H1
  obtain rfl := Option.some.inj H
  go_enter Tryz.func21, Tryz.ntmps21
  go_wp2_with (first | ((with_reducible refine zaq (N := 8) rfl ?_); refine zao ?hg (N := 8) ?hd (cs := #[.int .i64 a1_0, .int .i64 a1_1]) (t := 25) ?hr ?_; (case hd => rfl); (case hg => rfl); (case hr => first | (go_simp; done) | (go_simp; rfl)); intro gb209 hg w11 hbox hb; have n0_ := za0.mk (zaa (by repeat (first | (with_reducible first | exact HB.out | apply za2 | apply za1 | apply za3) | exact HB.out)) hb); have n1_ := za0.mk (hbox); have n2_ := za0.mk ((by rw [hg]; exact (za8 (by repeat (first | (with_reducible first | exact HB.out | apply za2 | apply za1 | apply za3) | exact HB.out))) : w.heap.size ≤ gb209)); have n3_ := za0.mk ((by rw [hg]; exact (za8 (by repeat (first | (with_reducible first | exact HB.out | apply za2 | apply za1 | apply za3) | exact HB.out))) : w.heap.size ≤ gb209)); clear HB; have HB := n0_; have BK209 := n1_; have GW209 := n2_; have GE209 := n3_; clear n0_ n1_ n2_ n3_; clear hb hbox hg; have hcz12_0 : w11.cell? ⟨gb209, 0, none⟩ = some (.int .i64 a1_0) := (za4 BK209.out 0).trans rfl; have hcz12_1 : w11.cell? ⟨gb209, 1, none⟩ = some (.int .i64 a1_1) := (za4 BK209.out 1).trans rfl; have hfz12_0 := za6 BK209.out 0; have hfz12_1 := za6 BK209.out 1) | ((with_reducible refine zah (f := 22) rfl ?_); refine zar (some 23) rfl rfl Tryz.func22 (by kernel_rfl) rfl #[.slice A0 l0.length c0, .agg #[.int .i64 a1_0, .int .i64 a1_1], .int .i64 a2, .int .i64 a3, .slice A4 l4.length c4] rfl (by (try simp only [List.map_toArray, List.map_cons, List.map_nil]); first | done | rfl | (simp only [List.length_drop, List.length_take]; rfl)) ?_; (with_reducible refine (edit_Replace.calls _ _ l0 a1_0 a1_1 a2 a3 _ _ l4 t210 t213 _ ?side1 ?side2 ?side3 ?side4 A8.out).mono ?_); (case side1 => repeat (first | exact (Kd.C_below HR0.out HB.out) | (with_reducible refine Kd.C_alloc ?_ _) | (with_reducible refine Kd.C_drewN ?_ _) | (with_reducible refine Kd.C_drew ?_))); (case side2 => exact HC0.out); (case side3 => repeat (first | exact (Kd.C_below HR4.out HB.out) | (with_reducible refine Kd.C_alloc ?_ _) | (with_reducible refine Kd.C_drewN ?_ _) | (with_reducible refine Kd.C_drew ?_))); (case side4 => exact HC4.out); rintro e w13 ⟨v211, rfl, ho0, hb⟩; refine ⟨_, rfl, ?_⟩; have n0_ := za0.mk (Kd.R_lower ho0 (za8 (by repeat (first | (with_reducible first | exact HB.out | apply za2 | apply za1 | apply za3 | refine zae ?_ GE209.out) | exact HB.out)))); have n1_ := za0.mk (blk_below (g := gb209) (o := .cells #[.int .i64 a1_0, .int .i64 a1_1] 25 (0, 0)) (by (with_reducible repeat (first | refine zaj ?_ _ | refine zai ?_ | refine zad ?_ _)); exact BK209.out) hb); have n2_ := za0.mk (zaa (by repeat (first | (with_reducible first | exact HB.out | apply za2 | apply za1 | apply za3 | refine zae ?_ GE209.out) | exact HB.out)) hb); clear BK209; clear HB; have HO212 := n0_; have BK209 := n1_; have HB := n2_; clear n0_ n1_ n2_; (try clear hb); (try clear hb2); (try clear hk); (try clear hi); (try clear ho0); obtain ⟨Ao14, co14, eo14⟩ := Kd.R_slice HO212.out; subst eo14) | ((with_reducible refine zah (f := 20) rfl ?_); refine zar (some 28) rfl rfl Tryz.func20 (by kernel_rfl) rfl #[.slice Ao14 t210.length co14, .slice A5 l5.length c5] rfl (by (try simp only [List.map_toArray, List.map_cons, List.map_nil]); first | done | rfl | (simp only [List.length_drop, List.length_take]; rfl)) ?_; (with_reducible refine (redpencilref14_Same.calls k _ _ t210 _ _ l5 true _ ?side1 ?side2 ?side3 ?side4 A9.out).mono ?_); (case side1 => repeat (first | exact (Kd.R_reads' HO212.out).2.2 | (with_reducible refine Kd.C_alloc ?_ _) | (with_reducible refine Kd.C_drewN ?_ _) | (with_reducible refine Kd.C_drew ?_))); (case side2 => exact (Kd.R_reads' HO212.out).2.1); (case side3 => repeat (first | exact (Kd.C_below HR5.out HB.out) | (with_reducible refine Kd.C_alloc ?_ _) | (with_reducible refine Kd.C_drewN ?_ _) | (with_reducible refine Kd.C_drew ?_))); (case side4 => exact HC5.out); rintro e w' ⟨rfl, ⟨nd, rfl⟩⟩; refine ⟨_, rfl, ?_⟩))
  go_ret
  exact ⟨by first | rfl | (simp [zac, zab] <;> rfl) | (simp [*, zac, zab] <;> rfl), by repeat (first | (with_reducible first | exact HB.out | apply za2 | apply za1 | apply za3 | refine zae ?_ GE209.out) | exact HB.out)⟩
 ·
  replace c10 := Bool.eq_false_iff.mpr c10
  subst c10
  have H1 : (some false) = some r := by rw [if_neg (show ¬ (false = true) by decide)] at H; exact H
  clear H
  have H := H1
  clear H1
  obtain rfl := Option.some.inj H
  go_enter Tryz.func21, Tryz.ntmps21
  go_wp2_with (first | ((with_reducible refine zaq (N := 8) rfl ?_); refine zao ?hg (N := 8) ?hd (cs := #[.int .i64 a1_0, .int .i64 a1_1]) (t := 25) ?hr ?_; (case hd => rfl); (case hg => rfl); (case hr => first | (go_simp; done) | (go_simp; rfl)); intro gb209 hg w15 hbox hb; have n0_ := za0.mk (zaa (by repeat (first | (with_reducible first | exact HB.out | apply za2 | apply za1 | apply za3) | exact HB.out)) hb); have n1_ := za0.mk (hbox); have n2_ := za0.mk ((by rw [hg]; exact (za8 (by repeat (first | (with_reducible first | exact HB.out | apply za2 | apply za1 | apply za3) | exact HB.out))) : w.heap.size ≤ gb209)); have n3_ := za0.mk ((by rw [hg]; exact (za8 (by repeat (first | (with_reducible first | exact HB.out | apply za2 | apply za1 | apply za3) | exact HB.out))) : w.heap.size ≤ gb209)); clear HB; have HB := n0_; have BK209 := n1_; have GW209 := n2_; have GE209 := n3_; clear n0_ n1_ n2_ n3_; clear hb hbox hg; have hcz16_0 : w15.cell? ⟨gb209, 0, none⟩ = some (.int .i64 a1_0) := (za4 BK209.out 0).trans rfl; have hcz16_1 : w15.cell? ⟨gb209, 1, none⟩ = some (.int .i64 a1_1) := (za4 BK209.out 1).trans rfl; have hfz16_0 := za6 BK209.out 0; have hfz16_1 := za6 BK209.out 1) | ((with_reducible refine zah (f := 22) rfl ?_); refine zar (some 23) rfl rfl Tryz.func22 (by kernel_rfl) rfl #[.slice A0 l0.length c0, .agg #[.int .i64 a1_0, .int .i64 a1_1], .int .i64 a2, .int .i64 a3, .slice A4 l4.length c4] rfl (by (try simp only [List.map_toArray, List.map_cons, List.map_nil]); first | done | rfl | (simp only [List.length_drop, List.length_take]; rfl)) ?_; (with_reducible refine (edit_Replace.calls _ _ l0 a1_0 a1_1 a2 a3 _ _ l4 t210 t213 _ ?side1 ?side2 ?side3 ?side4 A8.out).mono ?_); (case side1 => repeat (first | exact (Kd.C_below HR0.out HB.out) | (with_reducible refine Kd.C_alloc ?_ _) | (with_reducible refine Kd.C_drewN ?_ _) | (with_reducible refine Kd.C_drew ?_))); (case side2 => exact HC0.out); (case side3 => repeat (first | exact (Kd.C_below HR4.out HB.out) | (with_reducible refine Kd.C_alloc ?_ _) | (with_reducible refine Kd.C_drewN ?_ _) | (with_reducible refine Kd.C_drew ?_))); (case side4 => exact HC4.out); rintro e w17 ⟨v211, rfl, ho0, hb⟩; refine ⟨_, rfl, ?_⟩; have n0_ := za0.mk (Kd.R_lower ho0 (za8 (by repeat (first | (with_reducible first | exact HB.out | apply za2 | apply za1 | apply za3 | refine zae ?_ GE209.out) | exact HB.out)))); have n1_ := za0.mk (blk_below (g := gb209) (o := .cells #[.int .i64 a1_0, .int .i64 a1_1] 25 (0, 0)) (by (with_reducible repeat (first | refine zaj ?_ _ | refine zai ?_ | refine zad ?_ _)); exact BK209.out) hb); have n2_ := za0.mk (zaa (by repeat (first | (with_reducible first | exact HB.out | apply za2 | apply za1 | apply za3 | refine zae ?_ GE209.out) | exact HB.out)) hb); clear BK209; clear HB; have HO212 := n0_; have BK209 := n1_; have HB := n2_; clear n0_ n1_ n2_; (try clear hb); (try clear hb2); (try clear hk); (try clear hi); (try clear ho0); obtain ⟨Ao18, co18, eo18⟩ := Kd.R_slice HO212.out; subst eo18) | ((with_reducible refine zah (f := 20) rfl ?_); refine zar (some 28) rfl rfl Tryz.func20 (by kernel_rfl) rfl #[.slice Ao18 t210.length co18, .slice A5 l5.length c5] rfl (by (try simp only [List.map_toArray, List.map_cons, List.map_nil]); first | done | rfl | (simp only [List.length_drop, List.length_take]; rfl)) ?_; (with_reducible refine (redpencilref14_Same.calls k _ _ t210 _ _ l5 false _ ?side1 ?side2 ?side3 ?side4 A9.out).mono ?_); (case side1 => repeat (first | exact (Kd.R_reads' HO212.out).2.2 | (with_reducible refine Kd.C_alloc ?_ _) | (with_reducible refine Kd.C_drewN ?_ _) | (with_reducible refine Kd.C_drew ?_))); (case side2 => exact (Kd.R_reads' HO212.out).2.1); (case side3 => repeat (first | exact (Kd.C_below HR5.out HB.out) | (with_reducible refine Kd.C_alloc ?_ _) | (with_reducible refine Kd.C_drewN ?_ _) | (with_reducible refine Kd.C_drew ?_))); (case side4 => exact HC5.out); rintro e w' ⟨rfl, ⟨nd, rfl⟩⟩; refine ⟨_, rfl, ?_⟩))
  go_ret
  exact ⟨by first | rfl | (simp [zac, zab] <;> rfl) | (simp [*, zac, zab] <;> rfl), by repeat (first | (with_reducible first | exact HB.out | apply za2 | apply za1 | apply za3 | refine zae ?_ GE209.out) | exact HB.out)⟩
def redpencillaw15_dot.f (a0 : Int) (a1 : Int) : Option (Int × Int) := some (a0, a1)
set_option maxHeartbeats 8000000 in
set_option maxRecDepth 100000 in
theorem redpencillaw15_dot.calls (a0 : Int) (a1 : Int) (r1 : Int) (r2 : Int) (w : World) (h : redpencillaw15_dot.f a0 a1 = some (r1, r2)) :
  Calls Tryz.prog 32 #[.int .i64 a0, .int .i64 a1] w fun e w' => e = .returned (.agg #[.int .i64 r1, .int .i64 r2]) ∧ Below w.heap.size w w' := by
 have hu25 := Tryz.underlying25
 have HB := za0.mk (Below.refl w.heap.size w)
 have H : (some (a0, a1)) = some (r1, r2) := h
 clear h
 simp only [Option.some.injEq, Prod.mk.injEq] at H
 obtain ⟨rfl, rfl⟩ := H
 go_enter Tryz.func32, Tryz.ntmps32
 go_wp2_with (first | ((with_reducible refine zaq (N := 4) rfl ?_); refine zao ?hg (N := 4) ?hd (cs := #[.int .i64 0, .int .i64 0]) (t := 25) ?hr ?_; (case hd => rfl); (case hg => rfl); (case hr => first | (go_simp; done) | (go_simp; rfl)); intro gb215 hg w3 hbox hb; have n0_ := za0.mk (zaa (by repeat (first | (with_reducible first | exact HB.out | apply za2 | apply za1 | apply za3) | exact HB.out)) hb); have n1_ := za0.mk (hbox); have n2_ := za0.mk ((by rw [hg]; exact (za8 (by repeat (first | (with_reducible first | exact HB.out | apply za2 | apply za1 | apply za3) | exact HB.out))) : w.heap.size ≤ gb215)); have n3_ := za0.mk ((by rw [hg]; exact (za8 (by repeat (first | (with_reducible first | exact HB.out | apply za2 | apply za1 | apply za3) | exact HB.out))) : w.heap.size ≤ gb215)); clear HB; have HB := n0_; have BK215 := n1_; have GW215 := n2_; have GE215 := n3_; clear n0_ n1_ n2_ n3_; clear hb hbox hg; have hcz4_0 : w3.cell? ⟨gb215, 0, none⟩ = some (.int .i64 0) := (za4 BK215.out 0).trans rfl; have hcz4_1 : w3.cell? ⟨gb215, 1, none⟩ = some (.int .i64 0) := (za4 BK215.out 1).trans rfl; have hfz4_0 := za6 BK215.out 0; have hfz4_1 := za6 BK215.out 1))
 refine bodyPost_ret (results_cell_row rfl _ _ gb215 25 #[.int .i64 a0, .int .i64 a1] (0, 0) _ rfl (by (with_reducible repeat (first | refine zaj ?_ _ | refine zai ?_ | refine zad ?_ _)); refine blk_put (cs := #[.int .i64 a0, .int .i64 0]) ?_ 1 _ rfl; (with_reducible repeat (first | refine zaj ?_ _ | refine zai ?_ | refine zad ?_ _)); refine blk_put (cs := #[.int .i64 0, .int .i64 0]) ?_ 0 _ rfl; (with_reducible repeat (first | refine zaj ?_ _ | refine zai ?_ | refine zad ?_ _)); exact BK215.out) Tryz.underlying25 rfl (by kernel_rfl)) rfl ?_
 exact ⟨by first | rfl | (simp [zac, zab] <;> rfl) | (simp [*, zac, zab] <;> rfl), by repeat (first | (with_reducible first | exact HB.out | apply za2 | apply za1 | apply za3 | refine zae ?_ GE215.out) | exact HB.out)⟩
end
end Go.Proofs.YtmbndijbpgobeaaGreat.PWalk
end
section
namespace Go.Proofs.YtmbndijbpgobeaaGreat.PWalk
open Go.RowKit Go.Proofs.YtmbndijbpgobeaaGreatW.PrintWords Go.Proofs.YtmbndijbpgobeaaGreatW.PrintLast Go.Proofs.YtmbndijbpgobeaaGreatW.PrintMore
attribute [local go_sem] max2_int max_two
set_option linter.unusedVariables false
set_option linter.unusedSimpArgs false
section
def redpencilref15_Same.l0 : Nat → List Int → List Int → Int → Option (Bool)
 | 0, _, _, _ => none
 | k + 1, x0, x1, x5 => if x5 < (x0.length : Int) then (if 0 ≤ x5 then (if x5 < (x1.length : Int) then (if (rd x0 x5) = (rd x1 x5) then (redpencilref15_Same.l0 k x0 x1 (wrap64 (x5 + 1))) else (some false)) else (none)) else (none)) else (some true)
def redpencilref15_Same.f (k : Nat) (l0 : List Int) (l1 : List Int) : Option (Bool) := if (l0.length : Int) = (l1.length : Int) then (redpencilref15_Same.l0 k l0 l1 0) else (some false)
set_option maxHeartbeats 8000000 in
set_option maxRecDepth 100000 in
theorem redpencilref15_Same.calls (k : Nat) (A0 : Option Addr) (c0 : Nat) (l0 : List Int) (A1 : Option Addr) (c1 : Nat) (l1 : List Int) (r : Bool) (w : World) (hr0 : Kd.C (Kd.int .i32) w A0 l0.length l0) (hc0 : l0.length ≤ c0) (hr1 : Kd.C (Kd.int .i32) w A1 l1.length l1) (hc1 : l1.length ≤ c1) (h : redpencilref15_Same.f k l0 l1 = some r) :
  Calls Tryz.prog 29 #[.slice A0 l0.length c0, .slice A1 l1.length c1] w fun e w' => e = .returned (.bool r) ∧ zam w w' := by
 have HR0 := za0.mk hr0
 have HC0 := za0.mk hc0
 clear hr0 hc0
 have HR1 := za0.mk hr1
 have HC1 := za0.mk hc1
 clear hr1 hc1
 have H : (if (l0.length : Int) = (l1.length : Int) then (redpencilref15_Same.l0 k l0 l1 0) else (some false)) = some r := h
 clear h
 by_cases c3 : (l0.length : Int) = (l1.length : Int)
 ·
  rw [if_pos c3] at H
  have c3b0 : ((l0.length : Int) == (l1.length : Int)) = true := beq_iff_eq.mpr c3
  have c3b1 : ((l0.length : Int) != (l1.length : Int)) = false := bne_eq_false_iff_eq.mpr c3
  have c3b2 : (l0.length == l1.length) = true := by first | simpa using c3 | (simp at c3 ⊢; omega)
  clear c3
  have H' := za0.mk H
  clear H
  go_enter Tryz.func29, Tryz.ntmps29
  go_wp2
  repeat (go_quiet (fail); try go_wp2)
  go_loopg [5] k (fun kq v5 w' => ∃ (x5_1 : Int), v5 = .int .i64 x5_1 ∧ za0 (redpencilref15_Same.l0 kq l0 l1 x5_1 = some r) ∧ za0 (kq ≤ k) ∧ zam w w')
  case atStart => exact ⟨(0), (by first | rfl | (simp; done) | (simp [*]; done)), H', ⟨Nat.le_refl _⟩, by repeat (first | exact zam.refl _ | apply zam.step)⟩
  case round =>
   clear H'
   try clear c1
   try clear c2
   try clear p2
   try clear c3
   try clear c3b0
   try clear c3b1
   try clear c3b2
   obtain ⟨x5_1, rfl, HA, HK1, ⟨m1, rfl⟩⟩ := hrel
   cases gk with
   | zero => exact absurd HA.out (by simp [redpencilref15_Same.l0])
   | succ k1 =>
    have H := HA.out
    clear HA
    simp only [redpencilref15_Same.l0] at H
    by_cases c4 : x5_1 < (l0.length : Int)
    ·
     rw [if_pos c4] at H
     have c4b0 : decide (x5_1 < (l0.length : Int)) = true := decide_eq_true c4
     clear c4
     by_cases c5 : 0 ≤ x5_1
     ·
      rw [if_pos c5] at H
      have c5b0 : decide (0 ≤ x5_1) = true := decide_eq_true c5
      clear c5
      by_cases c6 : x5_1 < (l1.length : Int)
      ·
       rw [if_pos c6] at H
       have c6b0 : decide (x5_1 < (l1.length : Int)) = true := decide_eq_true c6
       clear c6
       by_cases c7 : (rd l0 x5_1) = (rd l1 x5_1)
       ·
        rw [if_pos c7] at H
        have c7b0 : ((rd l0 x5_1) == (rd l1 x5_1)) = true := beq_iff_eq.mpr c7
        have c7b1 : ((rd l0 x5_1) != (rd l1 x5_1)) = false := bne_eq_false_iff_eq.mpr c7
        clear c7
        have H' := za0.mk H
        clear H
        have p275 : 0 ≤ (x5_1 : Int) := of_decide_eq_true (by first | (with_reducible assumption) | assumption)
        have q275 : x5_1 < (l0.length : Int) := of_decide_eq_true (by first | (with_reducible assumption) | assumption)
        obtain ⟨ad275, e275, hx275_0⟩ := Kd.at_int HR0.out x5_1 p275 q275
        cases e275
        replace p275 := eq_true p275
        replace q275 := eq_true q275
        have p276 : 0 ≤ (x5_1 : Int) := of_decide_eq_true (by first | (with_reducible assumption) | assumption)
        have q276 : x5_1 < (l1.length : Int) := of_decide_eq_true (by first | (with_reducible assumption) | assumption)
        obtain ⟨ad276, e276, hx276_0⟩ := Kd.at_int HR1.out x5_1 p276 q276
        cases e276
        replace p276 := eq_true p276
        replace q276 := eq_true q276
        go_wp2
        repeat (go_quiet (fail); try go_wp2)
        go_roundg k1
        case measure => have := HK1.out; omega
        case rel => exact ⟨(wrap64 (x5_1 + 1)), (by first | rfl | (simp; done) | (simp [*]; done)), H', ⟨by have := HK1.out; omega⟩, by repeat (first | exact zam.refl _ | apply zam.step)⟩
       ·
        rw [if_neg c7] at H
        have c7b0 : ((rd l0 x5_1) == (rd l1 x5_1)) = false := beq_eq_false_iff_ne.mpr c7
        have c7b1 : ((rd l0 x5_1) != (rd l1 x5_1)) = true := bne_iff_ne.mpr c7
        obtain rfl := Option.some.inj H
        have p275 : 0 ≤ (x5_1 : Int) := of_decide_eq_true (by first | (with_reducible assumption) | assumption)
        have q275 : x5_1 < (l0.length : Int) := of_decide_eq_true (by first | (with_reducible assumption) | assumption)
        obtain ⟨ad275, e275, hx275_0⟩ := Kd.at_int HR0.out x5_1 p275 q275
        cases e275
        replace p275 := eq_true p275
        replace q275 := eq_true q275
        have p276 : 0 ≤ (x5_1 : Int) := of_decide_eq_true (by first | (with_reducible assumption) | assumption)
        have q276 : x5_1 < (l1.length : Int) := of_decide_eq_true (by first | (with_reducible assumption) | assumption)
        obtain ⟨ad276, e276, hx276_0⟩ := Kd.at_int HR1.out x5_1 p276 q276
        cases e276
        replace p276 := eq_true p276
        replace q276 := eq_true q276
        go_wp2
        repeat (go_quiet (fail); try go_wp2)
        go_ret
        exact ⟨by first | rfl | (simp; done) | (simp [*]; done), by repeat (first | exact zam.refl _ | apply zam.step)⟩
      ·
       rw [if_neg c6] at H
       exact absurd H (by simp)
     ·
      rw [if_neg c5] at H
      exact absurd H (by simp)
    ·
     rw [if_neg c4] at H
     have c4b0 : decide (x5_1 < (l0.length : Int)) = false := decide_eq_false c4
     clear c4
     obtain rfl := Option.some.inj H
     go_wp2
     repeat (go_quiet (fail); try go_wp2)
     go_ret
     exact ⟨by first | rfl | (simp; done) | (simp [*]; done), by repeat (first | exact zam.refl _ | apply zam.step)⟩
 ·
  rw [if_neg c3] at H
  have c3b0 : ((l0.length : Int) == (l1.length : Int)) = false := beq_eq_false_iff_ne.mpr c3
  have c3b1 : ((l0.length : Int) != (l1.length : Int)) = true := bne_iff_ne.mpr c3
  have c3b2 : (l0.length == l1.length) = false := by first | simpa using c3 | (simp at c3 ⊢; omega)
  obtain rfl := Option.some.inj H
  go_enter Tryz.func29, Tryz.ntmps29
  go_wp2
  repeat (go_quiet (fail); try go_wp2)
  go_ret
  exact ⟨by first | rfl | (simp; done) | (simp [*]; done), by repeat (first | exact zam.refl _ | apply zam.step)⟩
end
section
def redpencilref14_Runes.l0 : Nat → List Int → List (S53) → Int → Option (List Int)
 | 0, _, _, _ => none
 | k + 1, x3, x4, x5 => if x5 < (x4.length : Int) then (if 0 ≤ x5 then (if x3.length < 35184372088832 then (redpencilref14_Runes.l0 k (x3 ++ [(za9 x4 x5).f3]) x4 (wrap64 (x5 + 1))) else (none)) else (none)) else (some x3)
def redpencilref14_Runes.f (k : Nat) (l0 : List (S53)) : Option (List Int) := (redpencilref14_Visible.f k l0).bind fun t309 => (redpencilref14_Runes.l0 k ([] : List Int) t309 0)
set_option maxHeartbeats 8000000 in
set_option maxRecDepth 100000 in
theorem redpencilref14_Runes.calls (k : Nat) (A0 : Option Addr) (c0 : Nat) (l0 : List (S53)) (r : List Int) (w : World) (hr0 : Kd.C k53 w A0 l0.length l0) (hc0 : l0.length ≤ c0) (h : redpencilref14_Runes.f k l0 = some r) :
  Calls Tryz.prog 30 #[.slice A0 l0.length c0] w fun e w' => ∃ v0_ : Value, e = .returned (v0_) ∧ Kd.R (Kd.int .i32) 21 w' w.heap.size (fun _ => True) v0_ r ∧ Below w.heap.size w w' := by
 have HR0 := za0.mk hr0
 have HC0 := za0.mk hc0
 clear hr0 hc0
 have HB := za0.mk (Below.refl w.heap.size w)
 have H : ((redpencilref14_Visible.f k l0).bind fun t309 => (redpencilref14_Runes.l0 k ([] : List Int) t309 0)) = some r := h
 clear h
 replace H := Option.bind_eq_some_iff.mp H
 obtain ⟨t309, A20, H⟩ := H
 replace H : (redpencilref14_Runes.l0 k ([] : List Int) t309 0) = some r := H
 have A2 := za0.mk A20
 clear A20
 have H' := za0.mk H
 clear H
 go_enter Tryz.func30, Tryz.ntmps30
 go_wp2_with (first | ((with_reducible refine zah (f := 38) rfl ?_); refine zar (some 7) rfl rfl Tryz.func38 (by kernel_rfl) rfl #[.slice A0 l0.length c0] rfl (by (try simp only [List.map_toArray, List.map_cons, List.map_nil]); first | done | rfl | (simp only [List.length_drop, List.length_take]; rfl)) ?_; (with_reducible refine (redpencilref14_Visible.calls k _ _ l0 t309 _ ?side1 ?side2 A2.out).mono ?_); (case side1 => repeat (first | exact HR0.out | (with_reducible refine Kd.C_alloc ?_ _) | (with_reducible refine Kd.C_drewN ?_ _) | (with_reducible refine Kd.C_drew ?_))); (case side2 => exact HC0.out); rintro e w3 ⟨v310, rfl, ho0, hb⟩; refine ⟨_, rfl, ?_⟩; have n0_ := za0.mk (Kd.R_lower ho0 (za8 (by repeat (first | (with_reducible first | exact HB.out | apply za2 | apply za1 | apply za3) | exact HB.out)))); have n1_ := za0.mk (zaa (by repeat (first | (with_reducible first | exact HB.out | apply za2 | apply za1 | apply za3) | exact HB.out)) hb); clear HB; have HO311 := n0_; have HB := n1_; clear n0_ n1_; (try clear hb); (try clear hb2); (try clear hk); (try clear hi); (try clear ho0)))
 go_loopg [3, 5] k (fun kq v3 v5 w' => ∃ (x3_1 : List Int) (x5_1 : Int), v5 = .int .i64 x5_1 ∧ za0 (redpencilref14_Runes.l0 kq x3_1 t309 x5_1 = some r) ∧ za0 (kq ≤ k) ∧ za0 (Kd.R (Kd.int .i32) 21 w' w.heap.size (fun _ => True) v3 x3_1) ∧ za0 (Kd.R k53 53 w' w.heap.size (fun _ => True) v310 t309) ∧ za0 (Below w.heap.size w w'))
 case atStart => exact ⟨(([] : List Int)), (0), (by first | rfl | (simp; done) | (simp [*]; done)), H', ⟨Nat.le_refl _⟩, ⟨by first | exact Kd.R_nil _ _ _ _ _ | exact Kd.N_nil _ _ _ _ _ | exact Kd.V_nil _ _ _ _ _ | exact Kd.Q_nil _ _ _ _ _ | exact Kd.S_nil _ _ _ _ _⟩, ⟨by (with_reducible repeat (first | apply Kd.R_alloc | apply Kd.R_drewN | apply Kd.R_drew)); exact HO311.out⟩, ⟨by repeat (first | (with_reducible first | exact HB.out | apply za2 | apply za1 | apply za3) | exact HB.out)⟩⟩
 case round =>
  clear H'
  try clear p2
  try clear c3
  obtain ⟨x3_1, x5_1, rfl, HA, HK1, HO_3, HO_4, HB⟩ := hrel
  cases gk with
  | zero => exact absurd HA.out (by simp [redpencilref14_Runes.l0])
  | succ k1 =>
   have H := HA.out
   clear HA
   simp only [redpencilref14_Runes.l0] at H
   by_cases c4 : x5_1 < (t309.length : Int)
   ·
    rw [if_pos c4] at H
    have c4b0 : decide (x5_1 < (t309.length : Int)) = true := decide_eq_true c4
    clear c4
    by_cases c5 : 0 ≤ x5_1
    ·
     rw [if_pos c5] at H
     have c5b0 : decide (0 ≤ x5_1) = true := decide_eq_true c5
     clear c5
     by_cases c6 : x3_1.length < 35184372088832
     ·
      rw [if_pos c6] at H
      have LMc6 := za0.mk c6
      clear c6
      obtain ⟨y313, hy313⟩ : ∃ y_ : List Int, y_ = (x3_1 ++ [(za9 t309 x5_1).f3]) := ⟨_, rfl⟩
      replace H : (redpencilref14_Runes.l0 k1 y313 t309 (wrap64 (x5_1 + 1))) = some r := by first | (rw [hy313]; with_reducible exact H) | (have H2_ := (Option.bind_some _ _).symm.trans H; rw [hy313]; with_reducible exact H2_) | (have H2_ := (Option.bind_some _ _).symm.trans H; with_reducible exact H2_) | with_reducible exact H | (rw [hy313]; exact H) | exact H
      have Ny313 := za0.mk hy313
      clear hy313
      have H' := za0.mk H
      clear H
      obtain ⟨Ao7, co7, eo7⟩ := Kd.R_slice HO_4.out
      subst eo7
      have p312 : 0 ≤ (x5_1 : Int) := of_decide_eq_true (by first | (with_reducible assumption) | assumption)
      have q312 : x5_1 < (t309.length : Int) := of_decide_eq_true (by first | (with_reducible assumption) | assumption)
      obtain ⟨ad312, e312, hx312_0, hx312_1, hx312_2, hx312_3, hx312_4, hx312_5⟩ := at_T53 (Kd.R_reads' HO_4.out).2.2 x5_1 p312 q312
      cases e312
      replace p312 := eq_true p312
      replace q312 := eq_true q312
      go_wp2_with (first | ((with_reducible refine gate_builtin (b := .append) (xs := #[.tmp 14, .tmp 20]) rfl ?_); at_builtin; refine Kd.R_append (Kd.int .i32) (w0 := w) w.heap.size rfl (.tmp 14) (.tmp 20) 26 21 (.int .i32 0) 4 rfl Tryz.underlying26 info21 rfl (by decide) (by omega) u3 x3_1 ((za9 t309 x5_1).f3) [.int .i32 ((za9 t309 x5_1).f3)] (fun _ => True) (fun _ => False) rfl rfl ?aP (fun _ hk => hk.elim) ?aF ?aO ?aB ?aS ?aL ?_; (case aP => exact rfl); (case aB => exact (by repeat (first | (with_reducible first | exact HB.out | apply za2 | apply za1 | apply za3) | exact HB.out))); (case aF => exact (fun _ _ => trivial)); (case aO => exact (by (with_reducible repeat (first | apply Kd.R_alloc | apply Kd.R_drewN | apply Kd.R_drew)); exact HO_3.out)); (case aS => exact (za8 (by repeat (first | (with_reducible first | exact HB.out | apply za2 | apply za1 | apply za3) | exact HB.out)))); (case aL => have := LMc6.out; omega); intro v314 w8 ho hb hg hat; rw [← Ny313.out] at ho; have n0_ := za0.mk (Kd.R_over' (by (with_reducible repeat (first | apply Kd.R_alloc | apply Kd.R_drewN | apply Kd.R_drew)); exact HO_4.out) (Kd.R_typed (by (with_reducible repeat (first | apply Kd.R_alloc | apply Kd.R_drewN | apply Kd.R_drew)); exact HO_3.out)) (by decide) hg); have n1_ := za0.mk (hb); have n2_ := za0.mk (ho); clear HO_4; clear HB; clear HO_3; have HO_4 := n0_; have HB := n1_; have HO315 := n2_; clear n0_ n1_ n2_; clear ho hb hg hat))
      go_roundg k1
      case measure => have := HK1.out; omega
      case rel => exact ⟨(y313), (wrap64 (x5_1 + 1)), (by first | rfl | (simp; done) | (simp [*]; done)), H', ⟨by have := HK1.out; omega⟩, ⟨by (with_reducible repeat (first | apply Kd.R_alloc | apply Kd.R_drewN | apply Kd.R_drew)); exact HO315.out⟩, ⟨by (with_reducible repeat (first | apply Kd.R_alloc | apply Kd.R_drewN | apply Kd.R_drew)); exact HO_4.out⟩, ⟨by repeat (first | (with_reducible first | exact HB.out | apply za2 | apply za1 | apply za3) | exact HB.out)⟩⟩
     ·
      rw [if_neg c6] at H
      exact absurd H (by simp)
    ·
     rw [if_neg c5] at H
     exact absurd H (by simp)
   ·
    rw [if_neg c4] at H
    have c4b0 : decide (x5_1 < (t309.length : Int)) = false := decide_eq_false c4
    clear c4
    obtain rfl := Option.some.inj H
    obtain ⟨Ao9, co9, eo9⟩ := Kd.R_slice HO_4.out
    subst eo9
    go_wp2
    go_ret
    exact ⟨_, by first | rfl | (simp [zac, zab] <;> rfl) | (simp [*, zac, zab] <;> rfl), by (with_reducible repeat (first | apply Kd.R_alloc | apply Kd.R_drewN | apply Kd.R_drew)); exact HO_3.out, by repeat (first | (with_reducible first | exact HB.out | apply za2 | apply za1 | apply za3) | exact HB.out)⟩
end
end Go.Proofs.YtmbndijbpgobeaaGreat.PWalk
end
section
namespace Go.Proofs.YtmbndijbpgobeaaGreat.PWalk
open Go.RowKit Go.Proofs.YtmbndijbpgobeaaGreatW.PrintWords Go.Proofs.YtmbndijbpgobeaaGreatW.PrintLast Go.Proofs.YtmbndijbpgobeaaGreatW.PrintMore
set_option linter.unusedVariables false
set_option linter.unusedSimpArgs false
open Go.Shelf
attribute [local go_sem] Oper.semAt_some
section
theorem jsameI_from (l : List Int) (hl : l.length ≤ 1000000) : ∀ (q k i : Nat), i + q = l.length → q < k → redpencilref15_Same.l0 k l l (i : Int) = some true := by
 intro q
 induction q with
 | zero =>
  intro k i hi hk
  obtain ⟨k, rfl⟩ : ∃ m, k = m + 1 := ⟨k - 1, by omega⟩
  simp only [redpencilref15_Same.l0]
  rw [if_neg (by omega)]
 | succ q ih =>
  intro k i hi hk
  obtain ⟨k, rfl⟩ : ∃ m, k = m + 1 := ⟨k - 1, by omega⟩
  have hlt : i < l.length := by omega
  simp only [redpencilref15_Same.l0]
  rw [if_pos (by omega), if_pos (by omega), if_pos (by omega), if_pos trivial, wrap_succ hlt hl]
  exact ih k (i + 1) (by omega) (by omega)
theorem jsameI_is (l : List Int) (hl : l.length ≤ 1000000) {k : Nat} (hk : l.length < k) : redpencilref15_Same.f k l l = some true := by
 unfold redpencilref15_Same.f
 rw [if_pos rfl]
 exact jsameI_from l hl l.length k 0 (by omega) hk
theorem jvis_from (l : List Node) (hl : l.length ≤ 1000000) : ∀ (q k i : Nat), i + q = l.length → q < k → redpencilref14_Visible.l0 k (zat (l.take i)) l (i : Int) = some (zat l) := by
 intro q
 induction q with
 | zero =>
  intro k i hi hk
  obtain ⟨k, rfl⟩ : ∃ m, k = m + 1 := ⟨k - 1, by omega⟩
  simp only [redpencilref14_Visible.l0]
  rw [if_neg (by omega), show i = l.length by omega, List.take_length]
 | succ q ih =>
  intro k i hi hk
  obtain ⟨k, rfl⟩ : ∃ m, k = m + 1 := ⟨k - 1, by omega⟩
  have hlt : i < l.length := by omega
  simp only [redpencilref14_Visible.l0]
  rw [if_pos (by omega), if_pos (by omega), rdN hlt, wrap_succ hlt hl]
  have hs : zat (l.take (i + 1)) = zat (l.take i) ++ zat [l[i]] := by
   unfold zat
   rw [List.take_succ_eq_append_getElem hlt, List.filter_append]
  have := ih k (i + 1) (by omega) (by omega)
  rw [hs] at this
  by_cases h : l[i].f3 = 0
  ·
   rw [if_pos h]
   rw [show zat [l[i]] = [] by unfold zat; simp [h], List.append_nil] at this
   exact this
  ·
   rw [if_neg h, if_pos (by have := aliveOf_le (l.take i); rw [List.length_take] at this; omega)]
   rw [show zat [l[i]] = [l[i]] by unfold zat; simp [h]] at this
   exact this
theorem jvis_is {l : List Node} (hl : l.length ≤ 400000) (hs : zak l = true) {k : Nat} (hk : l.length < k) : redpencilref14_Visible.f k l = some (visOf l) := by
 have := ord_len hs
 unfold redpencilref14_Visible.f redpencilref14_Order.f
 rw [if_pos ⟨hl, hs⟩, Option.bind_some]
 exact jvis_from _ (by omega) _ k 0 (Nat.zero_add _) (by omega)
theorem jrunes_from (v : List Node) (hl : v.length ≤ 1000000) : ∀ (q k i : Nat), i + q = v.length → q < k → redpencilref14_Runes.l0 k ((v.take i).map (·.f3)) v (i : Int) = some (v.map (·.f3)) := by
 intro q
 induction q with
 | zero =>
  intro k i hi hk
  obtain ⟨k, rfl⟩ : ∃ m, k = m + 1 := ⟨k - 1, by omega⟩
  simp only [redpencilref14_Runes.l0]
  rw [if_neg (by omega), show i = v.length by omega, List.take_length]
 | succ q ih =>
  intro k i hi hk
  obtain ⟨k, rfl⟩ : ∃ m, k = m + 1 := ⟨k - 1, by omega⟩
  have hlt : i < v.length := by omega
  simp only [redpencilref14_Runes.l0]
  rw [if_pos (by omega), if_pos (by omega), rdN hlt, wrap_succ hlt hl, if_pos (by rw [List.length_map, List.length_take]; omega)]
  have hs : (v.take i).map (·.f3) ++ [v[i].f3] = (v.take (i + 1)).map (·.f3) := by rw [List.take_succ_eq_append_getElem hlt, List.map_append]; rfl
  rw [hs]
  exact ih k (i + 1) (by omega) (by omega)
theorem jrunes_is {l : List Node} (hl : l.length ≤ 400000) (hs : zak l = true) {k : Nat} (hk : l.length < k) : redpencilref14_Runes.f k l = some (runesOf l) := by
 have := vis_len hs
 unfold redpencilref14_Runes.f
 rw [jvis_is hl hs hk, Option.bind_some]
 exact jrunes_from _ (by omega) _ k 0 (Nat.zero_add _) (by omega)
end
section
theorem grown_cellR {V : World} {g : Nat} (j : Nat) (u : Value) : V.grownBy (V.setCell ⟨g, j, none⟩ u) (some g) :=
 ⟨rfl, rfl, rfl, by rw [World.size_setCell]; exact Nat.le_refl _, fun k hk hne => Below.heap_setCell V _ u k (fun e => hne (by rw [e]))⟩
theorem fold_le {M : Int} : ∀ (l : List Node) (t : Int), t ≤ M → (∀ x ∈ l, x.f2 ≤ M) → l.foldl (fun t x => mx t x.f2) t ≤ M
 | [], _, h, _ => h
 | x :: l, t, h, hx => by
  rw [List.foldl_cons]
  refine fold_le l _ ?_ fun y hy => hx y (List.mem_cons_of_mem _ hy)
  have h2 := hx x (List.mem_cons_self ..)
  unfold mx
  split <;> omega
theorem last_le {l : List Node} (h : zak l = true) : 0 ≤ lastOf l ∧ lastOf l ≤ 4611686018427387904 := by
 refine ⟨last_ge l 0, fold_le l 0 (by omega) fun x hx => ?_⟩
 unfold zak at h
 rw [Bool.and_eq_true, List.all_eq_true] at h
 have := of_decide_eq_true (h.1 x hx)
 exact this.2.2.2.2.1
end
end Go.Proofs.YtmbndijbpgobeaaGreat.PWalk
end
section
namespace Go.Proofs.YtmbndijbpgobeaaGreat.PWalk
section

end
end Go.Proofs.YtmbndijbpgobeaaGreat.PWalk
end
section
namespace Go.Proofs.YtmbndijbpgobeaaGreat.PWalk
open Go.RowKit Go.Proofs.YtmbndijbpgobeaaGreatW.PrintWords Go.Proofs.YtmbndijbpgobeaaGreatW.PrintLast Go.Proofs.YtmbndijbpgobeaaGreatW.PrintMore
set_option linter.unusedVariables false
set_option linter.unusedSimpArgs false
open Go.Shelf
attribute [local go_sem] Oper.semAt_some
section
theorem inc_ext : ∀ {a b : List Node}, Inc a → Inc b → (∀ z, z ∈ a ↔ z ∈ b) → a = b
 | [], [], _, _, _ => rfl
 | [], y :: b, _, _, h => absurd ((h y).2 (List.mem_cons_self ..)) (by simp)
 | x :: a, [], _, _, h => absurd ((h x).1 (List.mem_cons_self ..)) (by simp)
 | x :: a, y :: b, ha, hb, h => by
  obtain ⟨ha1, ha2⟩ := List.pairwise_cons.1 ha
  obtain ⟨hb1, hb2⟩ := List.pairwise_cons.1 hb
  have e : x = y := by
   rcases List.mem_cons.1 ((h x).1 (List.mem_cons_self ..)) with e | hx
   ·
    exact e
   ·
    rcases List.mem_cons.1 ((h y).2 (List.mem_cons_self ..)) with e | hy
    ·
     exact e.symm
    ·
     have := dotLt_asymm (ha1 y hy)
     rw [hb1 x hx] at this
     cases this
  subst e
  rw [inc_ext ha2 hb2 fun z => ⟨fun hz => ?_, fun hz => ?_⟩]
  ·
   rcases List.mem_cons.1 ((h z).1 (List.mem_cons_of_mem _ hz)) with e | hz2
   ·
    have := ha1 z hz
    rw [e, dotLt_irrefl] at this
    cases this
   ·
    exact hz2
  ·
   rcases List.mem_cons.1 ((h z).2 (List.mem_cons_of_mem _ hz)) with e | hz2
   ·
    have := hb1 z hz
    rw [e, dotLt_irrefl] at this
    cases this
   ·
    exact hz2
theorem insP_cons (y x : Node) (o : List Node) : insP y (x :: o) = if dotLt x.f0 y.f0 = true then x :: insP y o else y :: x :: o := by
 unfold insP
 by_cases h : dotLt x.f0 y.f0 = true
 ·
  rw [if_pos h, List.takeWhile_cons, List.dropWhile_cons, if_pos h, if_pos h]; rfl
 ·
  rw [if_neg h, List.takeWhile_cons, List.dropWhile_cons, if_neg h, if_neg h]; rfl
theorem insP_mem {y z : Node} : ∀ {o : List Node}, z ∈ insP y o ↔ z = y ∨ z ∈ o
 | [] => by simp [insP]
 | x :: o => by
  rw [insP_cons]
  by_cases h : dotLt x.f0 y.f0 = true
  ·
   rw [if_pos h, List.mem_cons, insP_mem, List.mem_cons]
   constructor
   ·
    rintro (h | h | h)
    ·
     exact .inr (.inl h)
    ·
     exact .inl h
    ·
     exact .inr (.inr h)
   ·
    rintro (h | h | h)
    ·
     exact .inr (.inl h)
    ·
     exact .inl h
    ·
     exact .inr (.inr h)
  ·
   rw [if_neg h, List.mem_cons]
theorem insP_inc {y : Node} : ∀ {o : List Node}, Inc o → (∀ z ∈ o, z.f0 ≠ y.f0) → Inc (insP y o)
 | [], _, _ => List.pairwise_singleton _ _
 | x :: o, ho, hn => by
  obtain ⟨h1, h2⟩ := List.pairwise_cons.1 ho
  rw [insP_cons]
  by_cases h : dotLt x.f0 y.f0 = true
  ·
   rw [if_pos h]
   refine List.pairwise_cons.2 ⟨fun z hz => ?_, insP_inc h2 fun z hz => hn z (List.mem_cons_of_mem _ hz)⟩
   rcases insP_mem.1 hz with rfl | hz
   ·
    exact h
   ·
    exact h1 z hz
  ·
   rw [if_neg h]
   have hxy : dotLt y.f0 x.f0 = true := by
    cases hc : dotLt y.f0 x.f0 with
    | true => rfl
    | false => exact absurd (dotLt_total (Bool.eq_false_iff.2 h) hc) (hn x (List.mem_cons_self ..))
   refine List.pairwise_cons.2 ⟨fun z hz => ?_, ho⟩
   rcases List.mem_cons.1 hz with rfl | hz
   ·
    exact hxy
   ·
    exact dotLt_trans hxy (h1 z hz)
/-- Nodes of different dots, none of which a list has, put into it. -/
theorem joinJ_new : ∀ {ys o : List Node}, Inc o → (ys.map (·.f0)).Nodup → (∀ y ∈ ys, ∀ z ∈ o, z.f0 ≠ y.f0) → Inc (joinJ o ys) ∧ ∀ z, z ∈ joinJ o ys ↔ z ∈ o ∨ z ∈ ys
 | [], o, ho, _, _ => ⟨ho, fun z => by simp [joinJ]⟩
 | y :: ys, o, ho, hn, hd => by
  rw [List.map_cons, List.nodup_cons] at hn
  have e : stepJ o y = insP y o := by
   unfold stepJ
   rw [findIdx_none fun z hz => hd y (List.mem_cons_self ..) z hz]
  obtain ⟨h1, h2⟩ := joinJ_new (ys := ys) (insP_inc ho fun z hz => hd y (List.mem_cons_self ..) z hz) hn.2 (fun u hu z hz => by
   rcases insP_mem.1 hz with rfl | hz
   ·
    intro e
    exact hn.1 (List.mem_map.2 ⟨u, hu, e.symm⟩)
   ·
    exact hd u (List.mem_cons_of_mem _ hu) z hz)
  show Inc (joinJ (stepJ o y) ys) ∧ ∀ z, z ∈ joinJ (stepJ o y) ys ↔ _
  rw [e]
  refine ⟨h1, fun z => ?_⟩
  rw [h2, insP_mem, List.mem_cons]
  constructor
  ·
   rintro ((h | h) | h)
   ·
    exact .inr (.inl h)
   ·
    exact .inl h
   ·
    exact .inr (.inr h)
  ·
   rintro (h | h | h)
   ·
    exact .inl (.inr h)
   ·
    exact .inl (.inl h)
   ·
    exact .inr h
theorem dead_dots (l : List Node) : (l.map deadN).map (·.f0) = l.map (·.f0) := by
 rw [List.map_map]
 rfl
/-- What is deleted, one after the other, and at once. -/
theorem gone_is {l : List Node} (hs : zak l = true) (a n : Int) : joinJ [] ((cutV l a n).map deadN) = (l.filter fun x => decide (x.f0 ∈ (cutV l a n).map (·.f0))).map deadN := by
 have hi := store_inc hs
 obtain ⟨h1, h2⟩ := joinJ_new (ys := (cutV l a n).map deadN) (o := []) List.Pairwise.nil (by rw [dead_dots]; exact cut_nodup hs a n) (fun y _ z hz => by cases hz)
 have hsub : ∀ x ∈ cutV l a n, x ∈ l := fun x hx => (mem_vis hs ((cut_sub l a n).subset hx)).1
 refine inc_ext h1 ?_ fun z => ?_
 ·
  exact List.pairwise_map.2 ((hi.sublist List.filter_sublist).imp fun h => h)
 ·
  rw [h2, List.mem_map, List.mem_map]
  constructor
  ·
   rintro (h | ⟨x, hx, rfl⟩)
   ·
    cases h
   ·
    exact ⟨x, List.mem_filter.2 ⟨hsub x hx, decide_eq_true (List.mem_map.2 ⟨x, hx, rfl⟩)⟩, rfl⟩
  ·
   rintro ⟨x, hx, rfl⟩
   obtain ⟨hx1, hx2⟩ := List.mem_filter.1 hx
   obtain ⟨y, hy, e⟩ := List.mem_map.1 (of_decide_eq_true hx2)
   obtain ⟨i, hi1⟩ := List.getElem?_of_mem hx1
   obtain ⟨j, hj⟩ := List.getElem?_of_mem (hsub y hy)
   have := inc_unique hi hi1 hj e.symm
   subst this
   rw [hi1] at hj
   cases hj
   exact .inr ⟨x, hy, rfl⟩
end
end Go.Proofs.YtmbndijbpgobeaaGreat.PWalk
end
