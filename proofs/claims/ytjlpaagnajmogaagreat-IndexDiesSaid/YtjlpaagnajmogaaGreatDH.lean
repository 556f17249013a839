/-
  The law IndexDies: a store in which one more visible node was killed lacks its character, and nothing else changes. Part 8 of 10.
-/
import Derived.Test.YtjlpaagnajmogaaGreatDG
section
namespace Go.Proofs.YtjlpaagnajmogaaGreat.PWalk
open Go.RowKit Go.Proofs.YtjlpaagnajmogaaGreatW.PrintWords Go.Proofs.YtjlpaagnajmogaaGreatW.PrintLast Go.Proofs.YtjlpaagnajmogaaGreatW.PrintMore
set_option linter.unusedVariables false
set_option linter.unusedSimpArgs false
def redpencilref04_Root.f (a0_0 : Int) (a0_1 : Int) : Option (Bool) := if a0_0 = 0 then (some (a0_1 == 0)) else (some false)
set_option maxHeartbeats 8000000 in
set_option maxRecDepth 100000 in
theorem redpencilref04_Root.calls (a0_0 : Int) (a0_1 : Int) (r : Bool) (w : World) (h : redpencilref04_Root.f a0_0 a0_1 = some r) :
  Calls Tryz.prog 29 #[.agg #[.int .i64 a0_0, .int .i64 a0_1]] w fun e w' => e = .returned (.bool r) ∧ Below w.heap.size w w' := by
 have hu24 := Tryz.underlying24
 have HB := Aside0.mk (Below.refl w.heap.size w)
 have H : (if a0_0 = 0 then (some (a0_1 == 0)) else (some false)) = some r := h
 clear h
 by_cases c2 : a0_0 = 0
 ·
  rw [if_pos c2] at H
  have c2b0 : (a0_0 == 0) = true := beq_iff_eq.mpr c2
  have c2b1 : (a0_0 != 0) = false := bne_eq_false_iff_eq.mpr c2
  clear c2
  obtain rfl := Option.some.inj H
  go_enter Tryz.func29, Tryz.ntmps29
  go_wp2_with (first | ((with_reducible refine gate_dst (N := 1) rfl ?_); refine box_event ?hg (N := 1) ?hd (cs := #[.int .i64 a0_0, .int .i64 a0_1]) (t := 24) ?hr ?_; (case hd => rfl); (case hg => rfl); (case hr => first | (go_simp; done) | (go_simp; rfl)); intro gb197 hg w3 hbox hb; have n0_ := Aside0.mk (below_step (by repeat (first | (with_reducible first | exact HB.out | apply below_alloc | apply pw_below_drewN | apply below_drew1) | exact HB.out)) hb); have n1_ := Aside0.mk (hbox); have n2_ := Aside0.mk ((by rw [hg]; exact (below_size (by repeat (first | (with_reducible first | exact HB.out | apply below_alloc | apply pw_below_drewN | apply below_drew1) | exact HB.out))) : w.heap.size ≤ gb197)); have n3_ := Aside0.mk ((by rw [hg]; exact (below_size (by repeat (first | (with_reducible first | exact HB.out | apply below_alloc | apply pw_below_drewN | apply below_drew1) | exact HB.out))) : w.heap.size ≤ gb197)); clear HB; have HB := n0_; have BK197 := n1_; have GW197 := n2_; have GE197 := n3_; clear n0_ n1_ n2_ n3_; clear hb hbox hg; have hcz4_0 : w3.cell? ⟨gb197, 0, none⟩ = some (.int .i64 a0_0) := (blk_cell BK197.out 0).trans rfl; have hcz4_1 : w3.cell? ⟨gb197, 1, none⟩ = some (.int .i64 a0_1) := (blk_cell BK197.out 1).trans rfl; have hfz4_0 := blk_frozen BK197.out 0; have hfz4_1 := blk_frozen BK197.out 1))
  go_ret
  exact ⟨by first | rfl | (simp [errW_none, errW_some] <;> rfl) | (simp [*, errW_none, errW_some] <;> rfl), by repeat (first | (with_reducible first | exact HB.out | apply below_alloc | apply pw_below_drewN | apply below_drew1 | refine below_set ?_ GE197.out) | exact HB.out)⟩
 ·
  rw [if_neg c2] at H
  have c2b0 : (a0_0 == 0) = false := beq_eq_false_iff_ne.mpr c2
  have c2b1 : (a0_0 != 0) = true := bne_iff_ne.mpr c2
  obtain rfl := Option.some.inj H
  go_enter Tryz.func29, Tryz.ntmps29
  go_wp2_with (first | ((with_reducible refine gate_dst (N := 1) rfl ?_); refine box_event ?hg (N := 1) ?hd (cs := #[.int .i64 a0_0, .int .i64 a0_1]) (t := 24) ?hr ?_; (case hd => rfl); (case hg => rfl); (case hr => first | (go_simp; done) | (go_simp; rfl)); intro gb197 hg w5 hbox hb; have n0_ := Aside0.mk (below_step (by repeat (first | (with_reducible first | exact HB.out | apply below_alloc | apply pw_below_drewN | apply below_drew1) | exact HB.out)) hb); have n1_ := Aside0.mk (hbox); have n2_ := Aside0.mk ((by rw [hg]; exact (below_size (by repeat (first | (with_reducible first | exact HB.out | apply below_alloc | apply pw_below_drewN | apply below_drew1) | exact HB.out))) : w.heap.size ≤ gb197)); have n3_ := Aside0.mk ((by rw [hg]; exact (below_size (by repeat (first | (with_reducible first | exact HB.out | apply below_alloc | apply pw_below_drewN | apply below_drew1) | exact HB.out))) : w.heap.size ≤ gb197)); clear HB; have HB := n0_; have BK197 := n1_; have GW197 := n2_; have GE197 := n3_; clear n0_ n1_ n2_ n3_; clear hb hbox hg; have hcz6_0 : w5.cell? ⟨gb197, 0, none⟩ = some (.int .i64 a0_0) := (blk_cell BK197.out 0).trans rfl; have hcz6_1 : w5.cell? ⟨gb197, 1, none⟩ = some (.int .i64 a0_1) := (blk_cell BK197.out 1).trans rfl; have hfz6_0 := blk_frozen BK197.out 0; have hfz6_1 := blk_frozen BK197.out 1))
  go_ret
  exact ⟨by first | rfl | (simp [errW_none, errW_some] <;> rfl) | (simp [*, errW_none, errW_some] <;> rfl), by repeat (first | (with_reducible first | exact HB.out | apply below_alloc | apply pw_below_drewN | apply below_drew1 | refine below_set ?_ GE197.out) | exact HB.out)⟩
def redpencilref04_Valid.f (a0_0 : Int) (a0_1 : Int) : Option (Bool) := if a0_0 > 0 then (if a0_0 ≤ 64 then (if a0_1 > 0 then (some (decide (a0_1 ≤ 4294967295))) else (some false)) else (some false)) else (some false)
set_option maxHeartbeats 8000000 in
set_option maxRecDepth 100000 in
theorem redpencilref04_Valid.calls (a0_0 : Int) (a0_1 : Int) (r : Bool) (w : World) (h : redpencilref04_Valid.f a0_0 a0_1 = some r) :
  Calls Tryz.prog 30 #[.agg #[.int .i64 a0_0, .int .i64 a0_1]] w fun e w' => e = .returned (.bool r) ∧ Below w.heap.size w w' := by
 have hu24 := Tryz.underlying24
 have HB := Aside0.mk (Below.refl w.heap.size w)
 have H : (if a0_0 > 0 then (if a0_0 ≤ 64 then (if a0_1 > 0 then (some (decide (a0_1 ≤ 4294967295))) else (some false)) else (some false)) else (some false)) = some r := h
 clear h
 by_cases c2 : a0_0 > 0
 ·
  rw [if_pos c2] at H
  have c2b0 : decide (0 < a0_0) = true := decide_eq_true c2
  clear c2
  by_cases c3 : a0_0 ≤ 64
  ·
   rw [if_pos c3] at H
   have c3b0 : decide (a0_0 ≤ 64) = true := decide_eq_true c3
   clear c3
   by_cases c4 : a0_1 > 0
   ·
    rw [if_pos c4] at H
    have c4b0 : decide (0 < a0_1) = true := decide_eq_true c4
    clear c4
    obtain rfl := Option.some.inj H
    go_enter Tryz.func30, Tryz.ntmps30
    go_wp2_with (first | ((with_reducible refine gate_dst (N := 1) rfl ?_); refine box_event ?hg (N := 1) ?hd (cs := #[.int .i64 a0_0, .int .i64 a0_1]) (t := 24) ?hr ?_; (case hd => rfl); (case hg => rfl); (case hr => first | (go_simp; done) | (go_simp; rfl)); intro gb198 hg w5 hbox hb; have n0_ := Aside0.mk (below_step (by repeat (first | (with_reducible first | exact HB.out | apply below_alloc | apply pw_below_drewN | apply below_drew1) | exact HB.out)) hb); have n1_ := Aside0.mk (hbox); have n2_ := Aside0.mk ((by rw [hg]; exact (below_size (by repeat (first | (with_reducible first | exact HB.out | apply below_alloc | apply pw_below_drewN | apply below_drew1) | exact HB.out))) : w.heap.size ≤ gb198)); have n3_ := Aside0.mk ((by rw [hg]; exact (below_size (by repeat (first | (with_reducible first | exact HB.out | apply below_alloc | apply pw_below_drewN | apply below_drew1) | exact HB.out))) : w.heap.size ≤ gb198)); clear HB; have HB := n0_; have BK198 := n1_; have GW198 := n2_; have GE198 := n3_; clear n0_ n1_ n2_ n3_; clear hb hbox hg; have hcz6_0 : w5.cell? ⟨gb198, 0, none⟩ = some (.int .i64 a0_0) := (blk_cell BK198.out 0).trans rfl; have hcz6_1 : w5.cell? ⟨gb198, 1, none⟩ = some (.int .i64 a0_1) := (blk_cell BK198.out 1).trans rfl; have hfz6_0 := blk_frozen BK198.out 0; have hfz6_1 := blk_frozen BK198.out 1))
    go_ret
    exact ⟨by first | rfl | (simp [errW_none, errW_some] <;> rfl) | (simp [*, errW_none, errW_some] <;> rfl), by repeat (first | (with_reducible first | exact HB.out | apply below_alloc | apply pw_below_drewN | apply below_drew1 | refine below_set ?_ GE198.out) | exact HB.out)⟩
   ·
    rw [if_neg c4] at H
    have c4b0 : decide (0 < a0_1) = false := decide_eq_false c4
    clear c4
    obtain rfl := Option.some.inj H
    go_enter Tryz.func30, Tryz.ntmps30
    go_wp2_with (first | ((with_reducible refine gate_dst (N := 1) rfl ?_); refine box_event ?hg (N := 1) ?hd (cs := #[.int .i64 a0_0, .int .i64 a0_1]) (t := 24) ?hr ?_; (case hd => rfl); (case hg => rfl); (case hr => first | (go_simp; done) | (go_simp; rfl)); intro gb198 hg w7 hbox hb; have n0_ := Aside0.mk (below_step (by repeat (first | (with_reducible first | exact HB.out | apply below_alloc | apply pw_below_drewN | apply below_drew1) | exact HB.out)) hb); have n1_ := Aside0.mk (hbox); have n2_ := Aside0.mk ((by rw [hg]; exact (below_size (by repeat (first | (with_reducible first | exact HB.out | apply below_alloc | apply pw_below_drewN | apply below_drew1) | exact HB.out))) : w.heap.size ≤ gb198)); have n3_ := Aside0.mk ((by rw [hg]; exact (below_size (by repeat (first | (with_reducible first | exact HB.out | apply below_alloc | apply pw_below_drewN | apply below_drew1) | exact HB.out))) : w.heap.size ≤ gb198)); clear HB; have HB := n0_; have BK198 := n1_; have GW198 := n2_; have GE198 := n3_; clear n0_ n1_ n2_ n3_; clear hb hbox hg; have hcz8_0 : w7.cell? ⟨gb198, 0, none⟩ = some (.int .i64 a0_0) := (blk_cell BK198.out 0).trans rfl; have hcz8_1 : w7.cell? ⟨gb198, 1, none⟩ = some (.int .i64 a0_1) := (blk_cell BK198.out 1).trans rfl; have hfz8_0 := blk_frozen BK198.out 0; have hfz8_1 := blk_frozen BK198.out 1))
    go_ret
    exact ⟨by first | rfl | (simp [errW_none, errW_some] <;> rfl) | (simp [*, errW_none, errW_some] <;> rfl), by repeat (first | (with_reducible first | exact HB.out | apply below_alloc | apply pw_below_drewN | apply below_drew1 | refine below_set ?_ GE198.out) | exact HB.out)⟩
  ·
   rw [if_neg c3] at H
   have c3b0 : decide (a0_0 ≤ 64) = false := decide_eq_false c3
   clear c3
   obtain rfl := Option.some.inj H
   go_enter Tryz.func30, Tryz.ntmps30
   go_wp2_with (first | ((with_reducible refine gate_dst (N := 1) rfl ?_); refine box_event ?hg (N := 1) ?hd (cs := #[.int .i64 a0_0, .int .i64 a0_1]) (t := 24) ?hr ?_; (case hd => rfl); (case hg => rfl); (case hr => first | (go_simp; done) | (go_simp; rfl)); intro gb198 hg w9 hbox hb; have n0_ := Aside0.mk (below_step (by repeat (first | (with_reducible first | exact HB.out | apply below_alloc | apply pw_below_drewN | apply below_drew1) | exact HB.out)) hb); have n1_ := Aside0.mk (hbox); have n2_ := Aside0.mk ((by rw [hg]; exact (below_size (by repeat (first | (with_reducible first | exact HB.out | apply below_alloc | apply pw_below_drewN | apply below_drew1) | exact HB.out))) : w.heap.size ≤ gb198)); have n3_ := Aside0.mk ((by rw [hg]; exact (below_size (by repeat (first | (with_reducible first | exact HB.out | apply below_alloc | apply pw_below_drewN | apply below_drew1) | exact HB.out))) : w.heap.size ≤ gb198)); clear HB; have HB := n0_; have BK198 := n1_; have GW198 := n2_; have GE198 := n3_; clear n0_ n1_ n2_ n3_; clear hb hbox hg; have hcz10_0 : w9.cell? ⟨gb198, 0, none⟩ = some (.int .i64 a0_0) := (blk_cell BK198.out 0).trans rfl; have hcz10_1 : w9.cell? ⟨gb198, 1, none⟩ = some (.int .i64 a0_1) := (blk_cell BK198.out 1).trans rfl; have hfz10_0 := blk_frozen BK198.out 0; have hfz10_1 := blk_frozen BK198.out 1))
   go_ret
   exact ⟨by first | rfl | (simp [errW_none, errW_some] <;> rfl) | (simp [*, errW_none, errW_some] <;> rfl), by repeat (first | (with_reducible first | exact HB.out | apply below_alloc | apply pw_below_drewN | apply below_drew1 | refine below_set ?_ GE198.out) | exact HB.out)⟩
 ·
  rw [if_neg c2] at H
  have c2b0 : decide (0 < a0_0) = false := decide_eq_false c2
  clear c2
  obtain rfl := Option.some.inj H
  go_enter Tryz.func30, Tryz.ntmps30
  go_wp2_with (first | ((with_reducible refine gate_dst (N := 1) rfl ?_); refine box_event ?hg (N := 1) ?hd (cs := #[.int .i64 a0_0, .int .i64 a0_1]) (t := 24) ?hr ?_; (case hd => rfl); (case hg => rfl); (case hr => first | (go_simp; done) | (go_simp; rfl)); intro gb198 hg w11 hbox hb; have n0_ := Aside0.mk (below_step (by repeat (first | (with_reducible first | exact HB.out | apply below_alloc | apply pw_below_drewN | apply below_drew1) | exact HB.out)) hb); have n1_ := Aside0.mk (hbox); have n2_ := Aside0.mk ((by rw [hg]; exact (below_size (by repeat (first | (with_reducible first | exact HB.out | apply below_alloc | apply pw_below_drewN | apply below_drew1) | exact HB.out))) : w.heap.size ≤ gb198)); have n3_ := Aside0.mk ((by rw [hg]; exact (below_size (by repeat (first | (with_reducible first | exact HB.out | apply below_alloc | apply pw_below_drewN | apply below_drew1) | exact HB.out))) : w.heap.size ≤ gb198)); clear HB; have HB := n0_; have BK198 := n1_; have GW198 := n2_; have GE198 := n3_; clear n0_ n1_ n2_ n3_; clear hb hbox hg; have hcz12_0 : w11.cell? ⟨gb198, 0, none⟩ = some (.int .i64 a0_0) := (blk_cell BK198.out 0).trans rfl; have hcz12_1 : w11.cell? ⟨gb198, 1, none⟩ = some (.int .i64 a0_1) := (blk_cell BK198.out 1).trans rfl; have hfz12_0 := blk_frozen BK198.out 0; have hfz12_1 := blk_frozen BK198.out 1))
  go_ret
  exact ⟨by first | rfl | (simp [errW_none, errW_some] <;> rfl) | (simp [*, errW_none, errW_some] <;> rfl), by repeat (first | (with_reducible first | exact HB.out | apply below_alloc | apply pw_below_drewN | apply below_drew1 | refine below_set ?_ GE198.out) | exact HB.out)⟩
def redpencilref02_scalar.f (a0 : Int) : Option (Bool) := if a0 ≥ 0 then (if a0 ≤ 1114111 then (if a0 < 55296 then (some true) else (some (decide (a0 > 57343)))) else (some false)) else (some false)
set_option maxHeartbeats 8000000 in
set_option maxRecDepth 100000 in
theorem redpencilref02_scalar.calls (a0 : Int) (r : Bool) (w : World) (h : redpencilref02_scalar.f a0 = some r) :
  Calls Tryz.prog 135 #[.int .i64 a0] w fun e w' => e = .returned (.bool r) ∧ Drawn0 w w' := by
 have H : (if a0 ≥ 0 then (if a0 ≤ 1114111 then (if a0 < 55296 then (some true) else (some (decide (a0 > 57343)))) else (some false)) else (some false)) = some r := h
 clear h
 by_cases c2 : a0 ≥ 0
 ·
  rw [if_pos c2] at H
  have c2b0 : decide (0 ≤ a0) = true := decide_eq_true c2
  clear c2
  by_cases c3 : a0 ≤ 1114111
  ·
   rw [if_pos c3] at H
   have c3b0 : decide (a0 ≤ 1114111) = true := decide_eq_true c3
   clear c3
   by_cases c4 : a0 < 55296
   ·
    rw [if_pos c4] at H
    have c4b0 : decide (a0 < 55296) = true := decide_eq_true c4
    clear c4
    obtain rfl := Option.some.inj H
    go_enter Tryz.func135, Tryz.ntmps135
    go_wp2
    go_ret
    exact ⟨by first | rfl | (simp; done) | (simp [*]; done), by repeat (first | exact Drawn0.refl _ | apply Drawn0.step)⟩
   ·
    rw [if_neg c4] at H
    have c4b0 : decide (a0 < 55296) = false := decide_eq_false c4
    clear c4
    obtain rfl := Option.some.inj H
    go_enter Tryz.func135, Tryz.ntmps135
    go_wp2
    go_ret
    exact ⟨by first | rfl | (simp; done) | (simp [*]; done), by repeat (first | exact Drawn0.refl _ | apply Drawn0.step)⟩
  ·
   rw [if_neg c3] at H
   have c3b0 : decide (a0 ≤ 1114111) = false := decide_eq_false c3
   clear c3
   obtain rfl := Option.some.inj H
   go_enter Tryz.func135, Tryz.ntmps135
   go_wp2
   go_ret
   exact ⟨by first | rfl | (simp; done) | (simp [*]; done), by repeat (first | exact Drawn0.refl _ | apply Drawn0.step)⟩
 ·
  rw [if_neg c2] at H
  have c2b0 : decide (0 ≤ a0) = false := decide_eq_false c2
  clear c2
  obtain rfl := Option.some.inj H
  go_enter Tryz.func135, Tryz.ntmps135
  go_wp2
  go_ret
  exact ⟨by first | rfl | (simp; done) | (simp [*]; done), by repeat (first | exact Drawn0.refl _ | apply Drawn0.step)⟩
def redpencilref02_Valid.f (a0 : Int) : Option (Bool) := if a0 = 0 then (some false) else ((redpencilref02_scalar.f (wrap64 (a0))).bind fun t199 => (some t199))
set_option maxHeartbeats 8000000 in
set_option maxRecDepth 100000 in
theorem redpencilref02_Valid.calls (a0 : Int) (r : Bool) (w : World) (h : redpencilref02_Valid.f a0 = some r) :
  Calls Tryz.prog 106 #[.int .i32 a0] w fun e w' => e = .returned (.bool r) ∧ Drawn0 w w' := by
 have H : (if a0 = 0 then (some false) else ((redpencilref02_scalar.f (wrap64 (a0))).bind fun t199 => (some t199))) = some r := h
 clear h
 by_cases c2 : a0 = 0
 ·
  rw [if_pos c2] at H
  have c2b0 : (a0 == 0) = true := beq_iff_eq.mpr c2
  have c2b1 : (a0 != 0) = false := bne_eq_false_iff_eq.mpr c2
  clear c2
  obtain rfl := Option.some.inj H
  go_enter Tryz.func106, Tryz.ntmps106
  go_wp2
  go_ret
  exact ⟨by first | rfl | (simp; done) | (simp [*]; done), by repeat (first | exact Drawn0.refl _ | apply Drawn0.step)⟩
 ·
  rw [if_neg c2] at H
  have c2b0 : (a0 == 0) = false := beq_eq_false_iff_ne.mpr c2
  have c2b1 : (a0 != 0) = true := bne_iff_ne.mpr c2
  replace H := Option.bind_eq_some_iff.mp H
  obtain ⟨t199, A30, H⟩ := H
  replace H : (some t199) = some r := H
  have A3 := Aside0.mk A30
  clear A30
  obtain rfl := Option.some.inj H
  go_enter Tryz.func106, Tryz.ntmps106
  go_wp2_with (first | (go_at_call 135; (with_reducible refine (redpencilref02_scalar.calls (wrap64 (a0)) t199 _ A3.out).mono ?_); rintro e w' ⟨rfl, ⟨nd, rfl⟩⟩))
  go_ret
  exact ⟨by first | rfl | (simp; done) | (simp [*]; done), by repeat (first | exact Drawn0.refl _ | apply Drawn0.step)⟩
end Go.Proofs.YtjlpaagnajmogaaGreat.PWalk
end
section
namespace Go.Proofs.YtjlpaagnajmogaaGreat.PWalk
open Go.RowKit Go.Proofs.YtjlpaagnajmogaaGreatW.PrintWords Go.Proofs.YtjlpaagnajmogaaGreatW.PrintLast Go.Proofs.YtjlpaagnajmogaaGreatW.PrintMore
set_option linter.unusedVariables false
set_option linter.unusedSimpArgs false
def redpencilref09_Valid.f (a0_0 : Int) (a0_1 : Int) (a0_2 : Int) (a0_3 : Int) (a0_4 : Int) (a0_5 : Int) : Option (Bool) := (redpencilref04_Valid.f a0_0 a0_1).bind fun t209 => (if t209 = true then ((redpencilref04_Valid.f a0_2 a0_3).bind fun t210 => (if t210 = true then (if (a0_0 == a0_2 && (a0_1 == a0_3)) = true then (some false) else (if a0_4 > 0 then (if a0_4 ≤ 4611686018427387904 then (if a0_5 = 0 then (some true) else ((redpencilref02_Valid.f a0_5).bind fun t211 => (some t211))) else (some false)) else (some false))) else ((redpencilref04_Root.f a0_2 a0_3).bind fun t212 => (if t212 = true then (if (a0_0 == a0_2 && (a0_1 == a0_3)) = true then (some false) else (if a0_4 > 0 then (if a0_4 ≤ 4611686018427387904 then (if a0_5 = 0 then (some true) else ((redpencilref02_Valid.f a0_5).bind fun t213 => (some t213))) else (some false)) else (some false))) else (some false))))) else (some false))
theorem nvr_cells {V : World} {g : Nat} {c0 c1 c2 c3 c4 c5 : Value} {t : TypeId} (h : V.heap[g]? = some (.cells #[c0, c1, c2, c3, c4, c5] t (0, 0))) : V.cell? ⟨g, 0, none⟩ = some c0 ∧ V.cell? ⟨g, 1, none⟩ = some c1 ∧ V.cell? ⟨g, 2, none⟩ = some c2 ∧ V.cell? ⟨g, 3, none⟩ = some c3 ∧ V.cell? ⟨g, 4, none⟩ = some c4 ∧ V.cell? ⟨g, 5, none⟩ = some c5 := ⟨(blk_cell h 0).trans rfl, (blk_cell h 1).trans rfl, (blk_cell h 2).trans rfl, (blk_cell h 3).trans rfl, (blk_cell h 4).trans rfl, (blk_cell h 5).trans rfl⟩
attribute [local go_sem high] eqA24
set_option maxHeartbeats 2000000 in
set_option maxRecDepth 100000 in
theorem redpencilref09_Valid.calls (a0_0 : Int) (a0_1 : Int) (a0_2 : Int) (a0_3 : Int) (a0_4 : Int) (a0_5 : Int) (r : Bool) (w : World) (h : redpencilref09_Valid.f a0_0 a0_1 a0_2 a0_3 a0_4 a0_5 = some r) :
  Calls Tryz.prog 64 #[.agg #[.int .i64 a0_0, .int .i64 a0_1, .int .i64 a0_2, .int .i64 a0_3, .int .i64 a0_4, .int .i32 a0_5]] w fun e w' => e = .returned (.bool r) ∧ Below w.heap.size w w' := by
 unfold redpencilref09_Valid.f at h
 have HX : Aside0 ((w.alloc (.cells #[.int .i64 a0_0, .int .i64 a0_1, .int .i64 a0_2, .int .i64 a0_3, .int .i64 a0_4, .int .i32 a0_5] 35 (0, 0))).heap[w.heap.size]? = some (.cells #[.int .i64 a0_0, .int .i64 a0_1, .int .i64 a0_2, .int .i64 a0_3, .int .i64 a0_4, .int .i32 a0_5] 35 (0, 0))) := ⟨by show (w.heap.push _)[w.heap.size]? = _; simp⟩
 have HB : Aside0 (Below w.heap.size w (w.alloc (.cells #[.int .i64 a0_0, .int .i64 a0_1, .int .i64 a0_2, .int .i64 a0_3, .int .i64 a0_4, .int .i32 a0_5] 35 (0, 0)))) := ⟨below_alloc (Below.refl _ _) _⟩
 go_enter Tryz.func64, Tryz.ntmps64
 obtain ⟨x0, x1, x2, x3, x4, x5⟩ := nvr_cells HX.out
 obtain ⟨t0, Ht0, h⟩ := Option.bind_eq_some_iff.1 h
 have Ht0 := Aside0.mk Ht0
 have h' := Aside0.mk h
 clear h
 go_wp2_with fail
 refine (redpencilref04_Valid.calls _ _ t0 _ Ht0.out).mono ?_
 rintro e V ⟨rfl, hb⟩
 have HX := Aside0.mk ((hb.block _ (blk_lt HX.out)).trans HX.out)
 have HB := Aside0.mk (below_step HB.out hb)
 clear hb x0 x1 x2 x3 x4 x5
 obtain ⟨x0, x1, x2, x3, x4, x5⟩ := nvr_cells HX.out
 have h := h'.out
 clear h'
 cases t0 with
 | true =>
  rw [if_pos rfl] at h
  obtain ⟨t1, Ht1, h⟩ := Option.bind_eq_some_iff.1 h
  have Ht1 := Aside0.mk Ht1
  have h' := Aside0.mk h
  clear h
  go_wp2_with fail
  refine (redpencilref04_Valid.calls _ _ t1 _ Ht1.out).mono ?_
  rintro e V ⟨rfl, hb⟩
  have HX := Aside0.mk ((hb.block _ (blk_lt HX.out)).trans HX.out)
  have HB := Aside0.mk (below_step HB.out hb)
  clear hb x0 x1 x2 x3 x4 x5
  obtain ⟨x0, x1, x2, x3, x4, x5⟩ := nvr_cells HX.out
  have h := h'.out
  clear h'
  cases t1 with
  | true =>
   rw [if_pos rfl] at h
   by_cases c : (a0_0 == a0_2 && (a0_1 == a0_3)) = true
   ·
    rw [if_pos c] at h
    have ce : (a0_0 == a0_2 && (a0_1 == a0_3)) = true := c
    obtain rfl := Option.some.inj h
    go_wp2
    go_ret
    exact ⟨rfl, HB.out⟩
   ·
    rw [if_neg c] at h
    have ce : (a0_0 == a0_2 && (a0_1 == a0_3)) = false := by revert c; cases (a0_0 == a0_2) <;> cases (a0_1 == a0_3) <;> simp
    by_cases c4 : a0_4 > 0
    ·
     rw [if_pos c4] at h
     have d4 : decide (a0_4 > 0) = true := decide_eq_true (by omega)
     have d4' : decide (0 < a0_4) = true := decide_eq_true (by omega)
     by_cases c5 : a0_4 ≤ 4611686018427387904
     ·
      rw [if_pos c5] at h
      have d5 := decide_eq_true c5
      by_cases c6 : a0_5 = 0
      ·
       rw [if_pos c6] at h
       have d6 : (a0_5 == 0) = true := by rw [c6]; rfl
       obtain rfl := Option.some.inj h
       go_wp2
       go_ret
       exact ⟨rfl, HB.out⟩
      ·
       rw [if_neg c6] at h
       have d6 : (a0_5 == 0) = false := beq_eq_false_iff_ne.2 c6
       obtain ⟨t4, Ht4, h⟩ := Option.bind_eq_some_iff.1 h
       have Ht4 := Aside0.mk Ht4
       have h' := Aside0.mk h
       clear h
       go_wp2_with fail
       refine (redpencilref02_Valid.calls _ t4 _ Ht4.out).mono ?_
       rintro e V ⟨rfl, hb⟩
       have HB := Aside0.mk (below_step HB.out hb.below)
       obtain rfl := Option.some.inj h'.out
       clear hb x0 x1 x2 x3 x4 x5 h'
       cases t4 <;> (go_wp2; go_ret; exact ⟨rfl, HB.out⟩)
     ·
      rw [if_neg c5] at h
      have d5 := decide_eq_false c5
      obtain rfl := Option.some.inj h
      go_wp2
      go_ret
      exact ⟨rfl, HB.out⟩
    ·
     rw [if_neg c4] at h
     have d4 : decide (a0_4 > 0) = false := decide_eq_false (by omega)
     have d4' : decide (0 < a0_4) = false := decide_eq_false (by omega)
     obtain rfl := Option.some.inj h
     go_wp2
     go_ret
     exact ⟨rfl, HB.out⟩
  | false =>
   rw [if_neg (by simp)] at h
   obtain ⟨t2, Ht2, h⟩ := Option.bind_eq_some_iff.1 h
   have Ht2 := Aside0.mk Ht2
   have h' := Aside0.mk h
   clear h
   go_wp2_with fail
   refine (redpencilref04_Root.calls _ _ t2 _ Ht2.out).mono ?_
   rintro e V ⟨rfl, hb⟩
   have HX := Aside0.mk ((hb.block _ (blk_lt HX.out)).trans HX.out)
   have HB := Aside0.mk (below_step HB.out hb)
   clear hb x0 x1 x2 x3 x4 x5
   obtain ⟨x0, x1, x2, x3, x4, x5⟩ := nvr_cells HX.out
   have h := h'.out
   clear h'
   cases t2 with
   | true =>
    rw [if_pos rfl] at h
    by_cases c : (a0_0 == a0_2 && (a0_1 == a0_3)) = true
    ·
     rw [if_pos c] at h
     have ce : (a0_0 == a0_2 && (a0_1 == a0_3)) = true := c
     obtain rfl := Option.some.inj h
     go_wp2
     go_ret
     exact ⟨rfl, HB.out⟩
    ·
     rw [if_neg c] at h
     have ce : (a0_0 == a0_2 && (a0_1 == a0_3)) = false := by revert c; cases (a0_0 == a0_2) <;> cases (a0_1 == a0_3) <;> simp
     by_cases c4 : a0_4 > 0
     ·
      rw [if_pos c4] at h
      have d4 : decide (a0_4 > 0) = true := decide_eq_true (by omega)
      have d4' : decide (0 < a0_4) = true := decide_eq_true (by omega)
      by_cases c5 : a0_4 ≤ 4611686018427387904
      ·
       rw [if_pos c5] at h
       have d5 := decide_eq_true c5
       by_cases c6 : a0_5 = 0
       ·
        rw [if_pos c6] at h
        have d6 : (a0_5 == 0) = true := by rw [c6]; rfl
        obtain rfl := Option.some.inj h
        go_wp2
        go_ret
        exact ⟨rfl, HB.out⟩
       ·
        rw [if_neg c6] at h
        have d6 : (a0_5 == 0) = false := beq_eq_false_iff_ne.2 c6
        obtain ⟨t4, Ht4, h⟩ := Option.bind_eq_some_iff.1 h
        have Ht4 := Aside0.mk Ht4
        have h' := Aside0.mk h
        clear h
        go_wp2_with fail
        refine (redpencilref02_Valid.calls _ t4 _ Ht4.out).mono ?_
        rintro e V ⟨rfl, hb⟩
        have HB := Aside0.mk (below_step HB.out hb.below)
        obtain rfl := Option.some.inj h'.out
        clear hb x0 x1 x2 x3 x4 x5 h'
        cases t4 <;> (go_wp2; go_ret; exact ⟨rfl, HB.out⟩)
      ·
       rw [if_neg c5] at h
       have d5 := decide_eq_false c5
       obtain rfl := Option.some.inj h
       go_wp2
       go_ret
       exact ⟨rfl, HB.out⟩
     ·
      rw [if_neg c4] at h
      have d4 : decide (a0_4 > 0) = false := decide_eq_false (by omega)
      have d4' : decide (0 < a0_4) = false := decide_eq_false (by omega)
      obtain rfl := Option.some.inj h
      go_wp2
      go_ret
      exact ⟨rfl, HB.out⟩
   | false =>
    rw [if_neg (by simp)] at h
    obtain rfl := Option.some.inj h
    go_wp2
    go_ret
    exact ⟨rfl, HB.out⟩
 | false =>
  rw [if_neg (by simp)] at h
  obtain rfl := Option.some.inj h
  go_wp2
  go_ret
  exact ⟨rfl, HB.out⟩
def redpencilref04_Less.f (a0_0 : Int) (a0_1 : Int) (a1_0 : Int) (a1_1 : Int) : Option (Bool) := if a0_1 = a1_1 then (some (decide (a0_0 < a1_0))) else (some (decide (a0_1 < a1_1)))
set_option maxHeartbeats 8000000 in
set_option maxRecDepth 100000 in
theorem redpencilref04_Less.calls (a0_0 : Int) (a0_1 : Int) (a1_0 : Int) (a1_1 : Int) (r : Bool) (w : World) (h : redpencilref04_Less.f a0_0 a0_1 a1_0 a1_1 = some r) :
  Calls Tryz.prog 65 #[.agg #[.int .i64 a0_0, .int .i64 a0_1], .agg #[.int .i64 a1_0, .int .i64 a1_1]] w fun e w' => e = .returned (.bool r) ∧ Below w.heap.size w w' := by
 have hu24 := Tryz.underlying24
 have HB := Aside0.mk (Below.refl w.heap.size w)
 have H : (if a0_1 = a1_1 then (some (decide (a0_0 < a1_0))) else (some (decide (a0_1 < a1_1)))) = some r := h
 clear h
 by_cases c3 : a0_1 = a1_1
 ·
  rw [if_pos c3] at H
  have c3b0 : (a0_1 == a1_1) = true := beq_iff_eq.mpr c3
  have c3b1 : (a0_1 != a1_1) = false := bne_eq_false_iff_eq.mpr c3
  clear c3
  obtain rfl := Option.some.inj H
  go_enter Tryz.func65, Tryz.ntmps65
  go_wp2_with (first | ((with_reducible refine gate_dst (N := 2) rfl ?_); refine box_event ?hg (N := 2) ?hd (cs := #[.int .i64 a0_0, .int .i64 a0_1]) (t := 24) ?hr ?_; (case hd => rfl); (case hg => rfl); (case hr => first | (go_simp; done) | (go_simp; rfl)); intro gb200 hg w4 hbox hb; have n0_ := Aside0.mk (below_step (by repeat (first | (with_reducible first | exact HB.out | apply below_alloc | apply pw_below_drewN | apply below_drew1) | exact HB.out)) hb); have n1_ := Aside0.mk (hbox); have n2_ := Aside0.mk ((by rw [hg]; exact (below_size (by repeat (first | (with_reducible first | exact HB.out | apply below_alloc | apply pw_below_drewN | apply below_drew1) | exact HB.out))) : w.heap.size ≤ gb200)); have n3_ := Aside0.mk ((by rw [hg]; exact (below_size (by repeat (first | (with_reducible first | exact HB.out | apply below_alloc | apply pw_below_drewN | apply below_drew1) | exact HB.out))) : w.heap.size ≤ gb200)); clear HB; have HB := n0_; have BK200 := n1_; have GW200 := n2_; have GE200 := n3_; clear n0_ n1_ n2_ n3_; clear hb hbox hg) | ((with_reducible refine gate_dst (N := 3) rfl ?_); refine box_event ?hg (N := 3) ?hd (cs := #[.int .i64 a1_0, .int .i64 a1_1]) (t := 24) ?hr ?_; (case hd => rfl); (case hg => rfl); (case hr => first | (go_simp; done) | (go_simp; rfl)); intro gb201 hg w5 hbox hb; have n0_ := Aside0.mk (blk_below (g := gb200) (o := .cells #[.int .i64 a0_0, .int .i64 a0_1] 24 (0, 0)) (by (with_reducible repeat (first | refine blk_drewN ?_ _ | refine blk_drew ?_ | refine blk_alloc ?_ _)); exact BK200.out) hb); have n1_ := Aside0.mk (below_step (by repeat (first | (with_reducible first | exact HB.out | apply below_alloc | apply pw_below_drewN | apply below_drew1 | refine below_set ?_ GE200.out) | exact HB.out)) hb); have n2_ := Aside0.mk (hbox); have n3_ := Aside0.mk ((by rw [hg]; exact (below_size (by repeat (first | (with_reducible first | exact HB.out | apply below_alloc | apply pw_below_drewN | apply below_drew1 | refine below_set ?_ GE200.out) | exact HB.out))) : w.heap.size ≤ gb201)); have n4_ := Aside0.mk ((by rw [hg]; exact (below_size (by repeat (first | (with_reducible first | exact HB.out | apply below_alloc | apply pw_below_drewN | apply below_drew1 | refine below_set ?_ GE200.out) | exact HB.out))) : w.heap.size ≤ gb201)); have n5_ := Aside0.mk ((by rw [hg]; exact Nat.ne_of_lt (blk_lt (g := gb200) (o := .cells #[.int .i64 a0_0, .int .i64 a0_1] 24 (0, 0)) (by (with_reducible repeat (first | refine blk_drewN ?_ _ | refine blk_drew ?_ | refine blk_alloc ?_ _)); exact BK200.out)) : gb200 ≠ gb201)); have n6_ := Aside0.mk ((by rw [hg]; exact Nat.ne_of_gt (blk_lt (g := gb200) (o := .cells #[.int .i64 a0_0, .int .i64 a0_1] 24 (0, 0)) (by (with_reducible repeat (first | refine blk_drewN ?_ _ | refine blk_drew ?_ | refine blk_alloc ?_ _)); exact BK200.out)) : gb201 ≠ gb200)); clear BK200; clear HB; have BK200 := n0_; have HB := n1_; have BK201 := n2_; have GW201 := n3_; have GE201 := n4_; have NB200_201 := n5_; have NB201_200 := n6_; clear n0_ n1_ n2_ n3_ n4_ n5_ n6_; clear hb hbox hg; have hnb6 := NB200_201.out; have hnc6 := NB201_200.out; have hcz7_0 : w5.cell? ⟨gb200, 0, none⟩ = some (.int .i64 a0_0) := (blk_cell BK200.out 0).trans rfl; have hcz7_1 : w5.cell? ⟨gb200, 1, none⟩ = some (.int .i64 a0_1) := (blk_cell BK200.out 1).trans rfl; have hfz7_0 := blk_frozen BK200.out 0; have hfz7_1 := blk_frozen BK200.out 1; have hcz8_0 : w5.cell? ⟨gb201, 0, none⟩ = some (.int .i64 a1_0) := (blk_cell BK201.out 0).trans rfl; have hcz8_1 : w5.cell? ⟨gb201, 1, none⟩ = some (.int .i64 a1_1) := (blk_cell BK201.out 1).trans rfl; have hfz8_0 := blk_frozen BK201.out 0; have hfz8_1 := blk_frozen BK201.out 1))
  go_ret
  exact ⟨by first | rfl | (simp [errW_none, errW_some] <;> rfl) | (simp [*, errW_none, errW_some] <;> rfl), by repeat (first | (with_reducible first | exact HB.out | apply below_alloc | apply pw_below_drewN | apply below_drew1 | refine below_set ?_ GE200.out | refine below_set ?_ GE201.out) | exact HB.out)⟩
 ·
  rw [if_neg c3] at H
  have c3b0 : (a0_1 == a1_1) = false := beq_eq_false_iff_ne.mpr c3
  have c3b1 : (a0_1 != a1_1) = true := bne_iff_ne.mpr c3
  obtain rfl := Option.some.inj H
  go_enter Tryz.func65, Tryz.ntmps65
  go_wp2_with (first | ((with_reducible refine gate_dst (N := 2) rfl ?_); refine box_event ?hg (N := 2) ?hd (cs := #[.int .i64 a0_0, .int .i64 a0_1]) (t := 24) ?hr ?_; (case hd => rfl); (case hg => rfl); (case hr => first | (go_simp; done) | (go_simp; rfl)); intro gb200 hg w9 hbox hb; have n0_ := Aside0.mk (below_step (by repeat (first | (with_reducible first | exact HB.out | apply below_alloc | apply pw_below_drewN | apply below_drew1) | exact HB.out)) hb); have n1_ := Aside0.mk (hbox); have n2_ := Aside0.mk ((by rw [hg]; exact (below_size (by repeat (first | (with_reducible first | exact HB.out | apply below_alloc | apply pw_below_drewN | apply below_drew1) | exact HB.out))) : w.heap.size ≤ gb200)); have n3_ := Aside0.mk ((by rw [hg]; exact (below_size (by repeat (first | (with_reducible first | exact HB.out | apply below_alloc | apply pw_below_drewN | apply below_drew1) | exact HB.out))) : w.heap.size ≤ gb200)); clear HB; have HB := n0_; have BK200 := n1_; have GW200 := n2_; have GE200 := n3_; clear n0_ n1_ n2_ n3_; clear hb hbox hg) | ((with_reducible refine gate_dst (N := 3) rfl ?_); refine box_event ?hg (N := 3) ?hd (cs := #[.int .i64 a1_0, .int .i64 a1_1]) (t := 24) ?hr ?_; (case hd => rfl); (case hg => rfl); (case hr => first | (go_simp; done) | (go_simp; rfl)); intro gb201 hg w10 hbox hb; have n0_ := Aside0.mk (blk_below (g := gb200) (o := .cells #[.int .i64 a0_0, .int .i64 a0_1] 24 (0, 0)) (by (with_reducible repeat (first | refine blk_drewN ?_ _ | refine blk_drew ?_ | refine blk_alloc ?_ _)); exact BK200.out) hb); have n1_ := Aside0.mk (below_step (by repeat (first | (with_reducible first | exact HB.out | apply below_alloc | apply pw_below_drewN | apply below_drew1 | refine below_set ?_ GE200.out) | exact HB.out)) hb); have n2_ := Aside0.mk (hbox); have n3_ := Aside0.mk ((by rw [hg]; exact (below_size (by repeat (first | (with_reducible first | exact HB.out | apply below_alloc | apply pw_below_drewN | apply below_drew1 | refine below_set ?_ GE200.out) | exact HB.out))) : w.heap.size ≤ gb201)); have n4_ := Aside0.mk ((by rw [hg]; exact (below_size (by repeat (first | (with_reducible first | exact HB.out | apply below_alloc | apply pw_below_drewN | apply below_drew1 | refine below_set ?_ GE200.out) | exact HB.out))) : w.heap.size ≤ gb201)); have n5_ := Aside0.mk ((by rw [hg]; exact Nat.ne_of_lt (blk_lt (g := gb200) (o := .cells #[.int .i64 a0_0, .int .i64 a0_1] 24 (0, 0)) (by (with_reducible repeat (first | refine blk_drewN ?_ _ | refine blk_drew ?_ | refine blk_alloc ?_ _)); exact BK200.out)) : gb200 ≠ gb201)); have n6_ := Aside0.mk ((by rw [hg]; exact Nat.ne_of_gt (blk_lt (g := gb200) (o := .cells #[.int .i64 a0_0, .int .i64 a0_1] 24 (0, 0)) (by (with_reducible repeat (first | refine blk_drewN ?_ _ | refine blk_drew ?_ | refine blk_alloc ?_ _)); exact BK200.out)) : gb201 ≠ gb200)); clear BK200; clear HB; have BK200 := n0_; have HB := n1_; have BK201 := n2_; have GW201 := n3_; have GE201 := n4_; have NB200_201 := n5_; have NB201_200 := n6_; clear n0_ n1_ n2_ n3_ n4_ n5_ n6_; clear hb hbox hg; have hnb11 := NB200_201.out; have hnc11 := NB201_200.out; have hcz12_0 : w10.cell? ⟨gb200, 0, none⟩ = some (.int .i64 a0_0) := (blk_cell BK200.out 0).trans rfl; have hcz12_1 : w10.cell? ⟨gb200, 1, none⟩ = some (.int .i64 a0_1) := (blk_cell BK200.out 1).trans rfl; have hfz12_0 := blk_frozen BK200.out 0; have hfz12_1 := blk_frozen BK200.out 1; have hcz13_0 : w10.cell? ⟨gb201, 0, none⟩ = some (.int .i64 a1_0) := (blk_cell BK201.out 0).trans rfl; have hcz13_1 : w10.cell? ⟨gb201, 1, none⟩ = some (.int .i64 a1_1) := (blk_cell BK201.out 1).trans rfl; have hfz13_0 := blk_frozen BK201.out 0; have hfz13_1 := blk_frozen BK201.out 1))
  go_ret
  exact ⟨by first | rfl | (simp [errW_none, errW_some] <;> rfl) | (simp [*, errW_none, errW_some] <;> rfl), by repeat (first | (with_reducible first | exact HB.out | apply below_alloc | apply pw_below_drewN | apply below_drew1 | refine below_set ?_ GE200.out | refine below_set ?_ GE201.out) | exact HB.out)⟩
end Go.Proofs.YtjlpaagnajmogaaGreat.PWalk
end
section
namespace Go.Proofs.YtjlpaagnajmogaaGreat.PWalk
open Go.RowKit Go.Proofs.YtjlpaagnajmogaaGreatW.PrintWords Go.Proofs.YtjlpaagnajmogaaGreatW.PrintLast Go.Proofs.YtjlpaagnajmogaaGreatW.PrintMore
set_option linter.unusedVariables false
set_option linter.unusedSimpArgs false
def redpencilref09_Before.f (a0_0 : Int) (a0_1 : Int) (a0_2 : Int) (a0_3 : Int) (a0_4 : Int) (a0_5 : Int) (a1_0 : Int) (a1_1 : Int) (a1_2 : Int) (a1_3 : Int) (a1_4 : Int) (a1_5 : Int) : Option (Bool) := if a0_4 = a1_4 then ((redpencilref04_Less.f a1_0 a1_1 a0_0 a0_1).bind fun t215 => (some t215)) else (some (decide (a0_4 > a1_4)))
set_option maxHeartbeats 8000000 in
set_option maxRecDepth 100000 in
theorem redpencilref09_Before.calls (a0_0 : Int) (a0_1 : Int) (a0_2 : Int) (a0_3 : Int) (a0_4 : Int) (a0_5 : Int) (a1_0 : Int) (a1_1 : Int) (a1_2 : Int) (a1_3 : Int) (a1_4 : Int) (a1_5 : Int) (r : Bool) (w : World) (h : redpencilref09_Before.f a0_0 a0_1 a0_2 a0_3 a0_4 a0_5 a1_0 a1_1 a1_2 a1_3 a1_4 a1_5 = some r) :
  Calls Tryz.prog 71 #[.agg #[.int .i64 a0_0, .int .i64 a0_1, .int .i64 a0_2, .int .i64 a0_3, .int .i64 a0_4, .int .i32 a0_5], .agg #[.int .i64 a1_0, .int .i64 a1_1, .int .i64 a1_2, .int .i64 a1_3, .int .i64 a1_4, .int .i32 a1_5]] w fun e w' => e = .returned (.bool r) ∧ Below w.heap.size w w' := by
 have hu35 := Tryz.underlying35
 have hu24 := Tryz.underlying24
 have HB := Aside0.mk (Below.refl w.heap.size w)
 have H : (if a0_4 = a1_4 then ((redpencilref04_Less.f a1_0 a1_1 a0_0 a0_1).bind fun t215 => (some t215)) else (some (decide (a0_4 > a1_4)))) = some r := h
 clear h
 by_cases c3 : a0_4 = a1_4
 ·
  rw [if_pos c3] at H
  have c3b0 : (a0_4 == a1_4) = true := beq_iff_eq.mpr c3
  have c3b1 : (a0_4 != a1_4) = false := bne_eq_false_iff_eq.mpr c3
  clear c3
  replace H := Option.bind_eq_some_iff.mp H
  obtain ⟨t215, A40, H⟩ := H
  replace H : (some t215) = some r := H
  have A4 := Aside0.mk A40
  clear A40
  obtain rfl := Option.some.inj H
  go_enter Tryz.func71, Tryz.ntmps71
  go_wp2_with (first | ((with_reducible refine gate_dst (N := 2) rfl ?_); refine box_event ?hg (N := 2) ?hd (cs := #[.int .i64 a0_0, .int .i64 a0_1, .int .i64 a0_2, .int .i64 a0_3, .int .i64 a0_4, .int .i32 a0_5]) (t := 35) ?hr ?_; (case hd => rfl); (case hg => rfl); (case hr => first | (go_simp; done) | (go_simp; rfl)); intro gb213 hg w5 hbox hb; have n0_ := Aside0.mk (below_step (by repeat (first | (with_reducible first | exact HB.out | apply below_alloc | apply pw_below_drewN | apply below_drew1) | exact HB.out)) hb); have n1_ := Aside0.mk (hbox); have n2_ := Aside0.mk ((by rw [hg]; exact (below_size (by repeat (first | (with_reducible first | exact HB.out | apply below_alloc | apply pw_below_drewN | apply below_drew1) | exact HB.out))) : w.heap.size ≤ gb213)); have n3_ := Aside0.mk ((by rw [hg]; exact (below_size (by repeat (first | (with_reducible first | exact HB.out | apply below_alloc | apply pw_below_drewN | apply below_drew1) | exact HB.out))) : w.heap.size ≤ gb213)); clear HB; have HB := n0_; have BK213 := n1_; have GW213 := n2_; have GE213 := n3_; clear n0_ n1_ n2_ n3_; clear hb hbox hg) | ((with_reducible refine gate_dst (N := 3) rfl ?_); refine box_event ?hg (N := 3) ?hd (cs := #[.int .i64 a1_0, .int .i64 a1_1, .int .i64 a1_2, .int .i64 a1_3, .int .i64 a1_4, .int .i32 a1_5]) (t := 35) ?hr ?_; (case hd => rfl); (case hg => rfl); (case hr => first | (go_simp; done) | (go_simp; rfl)); intro gb214 hg w6 hbox hb; have n0_ := Aside0.mk (blk_below (g := gb213) (o := .cells #[.int .i64 a0_0, .int .i64 a0_1, .int .i64 a0_2, .int .i64 a0_3, .int .i64 a0_4, .int .i32 a0_5] 35 (0, 0)) (by (with_reducible repeat (first | refine blk_drewN ?_ _ | refine blk_drew ?_ | refine blk_alloc ?_ _)); exact BK213.out) hb); have n1_ := Aside0.mk (below_step (by repeat (first | (with_reducible first | exact HB.out | apply below_alloc | apply pw_below_drewN | apply below_drew1 | refine below_set ?_ GE213.out) | exact HB.out)) hb); have n2_ := Aside0.mk (hbox); have n3_ := Aside0.mk ((by rw [hg]; exact (below_size (by repeat (first | (with_reducible first | exact HB.out | apply below_alloc | apply pw_below_drewN | apply below_drew1 | refine below_set ?_ GE213.out) | exact HB.out))) : w.heap.size ≤ gb214)); have n4_ := Aside0.mk ((by rw [hg]; exact (below_size (by repeat (first | (with_reducible first | exact HB.out | apply below_alloc | apply pw_below_drewN | apply below_drew1 | refine below_set ?_ GE213.out) | exact HB.out))) : w.heap.size ≤ gb214)); have n5_ := Aside0.mk ((by rw [hg]; exact Nat.ne_of_lt (blk_lt (g := gb213) (o := .cells #[.int .i64 a0_0, .int .i64 a0_1, .int .i64 a0_2, .int .i64 a0_3, .int .i64 a0_4, .int .i32 a0_5] 35 (0, 0)) (by (with_reducible repeat (first | refine blk_drewN ?_ _ | refine blk_drew ?_ | refine blk_alloc ?_ _)); exact BK213.out)) : gb213 ≠ gb214)); have n6_ := Aside0.mk ((by rw [hg]; exact Nat.ne_of_gt (blk_lt (g := gb213) (o := .cells #[.int .i64 a0_0, .int .i64 a0_1, .int .i64 a0_2, .int .i64 a0_3, .int .i64 a0_4, .int .i32 a0_5] 35 (0, 0)) (by (with_reducible repeat (first | refine blk_drewN ?_ _ | refine blk_drew ?_ | refine blk_alloc ?_ _)); exact BK213.out)) : gb214 ≠ gb213)); clear BK213; clear HB; have BK213 := n0_; have HB := n1_; have BK214 := n2_; have GW214 := n3_; have GE214 := n4_; have NB213_214 := n5_; have NB214_213 := n6_; clear n0_ n1_ n2_ n3_ n4_ n5_ n6_; clear hb hbox hg; have hnb7 := NB213_214.out; have hnc7 := NB214_213.out; have hcz8_0 : w6.cell? ⟨gb213, 0, none⟩ = some (.int .i64 a0_0) := (blk_cell BK213.out 0).trans rfl; have hcz8_1 : w6.cell? ⟨gb213, 1, none⟩ = some (.int .i64 a0_1) := (blk_cell BK213.out 1).trans rfl; have hcz8_2 : w6.cell? ⟨gb213, 2, none⟩ = some (.int .i64 a0_2) := (blk_cell BK213.out 2).trans rfl; have hcz8_3 : w6.cell? ⟨gb213, 3, none⟩ = some (.int .i64 a0_3) := (blk_cell BK213.out 3).trans rfl; have hcz8_4 : w6.cell? ⟨gb213, 4, none⟩ = some (.int .i64 a0_4) := (blk_cell BK213.out 4).trans rfl; have hcz8_5 : w6.cell? ⟨gb213, 5, none⟩ = some (.int .i32 a0_5) := (blk_cell BK213.out 5).trans rfl; have hfz8_0 := blk_frozen BK213.out 0; have hfz8_1 := blk_frozen BK213.out 1; have hfz8_2 := blk_frozen BK213.out 2; have hfz8_3 := blk_frozen BK213.out 3; have hfz8_4 := blk_frozen BK213.out 4; have hfz8_5 := blk_frozen BK213.out 5; have hcz9_0 : w6.cell? ⟨gb214, 0, none⟩ = some (.int .i64 a1_0) := (blk_cell BK214.out 0).trans rfl; have hcz9_1 : w6.cell? ⟨gb214, 1, none⟩ = some (.int .i64 a1_1) := (blk_cell BK214.out 1).trans rfl; have hcz9_2 : w6.cell? ⟨gb214, 2, none⟩ = some (.int .i64 a1_2) := (blk_cell BK214.out 2).trans rfl; have hcz9_3 : w6.cell? ⟨gb214, 3, none⟩ = some (.int .i64 a1_3) := (blk_cell BK214.out 3).trans rfl; have hcz9_4 : w6.cell? ⟨gb214, 4, none⟩ = some (.int .i64 a1_4) := (blk_cell BK214.out 4).trans rfl; have hcz9_5 : w6.cell? ⟨gb214, 5, none⟩ = some (.int .i32 a1_5) := (blk_cell BK214.out 5).trans rfl; have hfz9_0 := blk_frozen BK214.out 0; have hfz9_1 := blk_frozen BK214.out 1; have hfz9_2 := blk_frozen BK214.out 2; have hfz9_3 := blk_frozen BK214.out 3; have hfz9_4 := blk_frozen BK214.out 4; have hfz9_5 := blk_frozen BK214.out 5) | ((with_reducible refine gate_callee (f := 65) rfl ?_); refine goesL_ (some 19) rfl rfl Tryz.func65 (by kernel_rfl) rfl #[.agg #[.int .i64 a1_0, .int .i64 a1_1], .agg #[.int .i64 a0_0, .int .i64 a0_1]] rfl (by (try simp only [List.map_toArray, List.map_cons, List.map_nil]); first | done | rfl | (simp only [List.length_drop, List.length_take]; rfl)) ?_; (with_reducible refine (redpencilref04_Less.calls a1_0 a1_1 a0_0 a0_1 t215 _ A4.out).mono ?_); rintro e w10 ⟨rfl, hb⟩; refine ⟨_, rfl, ?_⟩; have n0_ := Aside0.mk (blk_below (g := gb213) (o := .cells #[.int .i64 a0_0, .int .i64 a0_1, .int .i64 a0_2, .int .i64 a0_3, .int .i64 a0_4, .int .i32 a0_5] 35 (0, 0)) (by (with_reducible repeat (first | refine blk_drewN ?_ _ | refine blk_drew ?_ | refine blk_alloc ?_ _)); exact BK213.out) hb); have n1_ := Aside0.mk (blk_below (g := gb214) (o := .cells #[.int .i64 a1_0, .int .i64 a1_1, .int .i64 a1_2, .int .i64 a1_3, .int .i64 a1_4, .int .i32 a1_5] 35 (0, 0)) (by (with_reducible repeat (first | refine blk_drewN ?_ _ | refine blk_drew ?_ | refine blk_alloc ?_ _)); exact BK214.out) hb); have n2_ := Aside0.mk (below_step (by repeat (first | (with_reducible first | exact HB.out | apply below_alloc | apply pw_below_drewN | apply below_drew1 | refine below_set ?_ GE213.out | refine below_set ?_ GE214.out) | exact HB.out)) hb); clear BK213; clear BK214; clear HB; have BK213 := n0_; have BK214 := n1_; have HB := n2_; clear n0_ n1_ n2_; (try clear hb); (try clear hb2); (try clear hk); (try clear hi)))
  go_ret
  exact ⟨by first | rfl | (simp [errW_none, errW_some] <;> rfl) | (simp [*, errW_none, errW_some] <;> rfl), by repeat (first | (with_reducible first | exact HB.out | apply below_alloc | apply pw_below_drewN | apply below_drew1 | refine below_set ?_ GE213.out | refine below_set ?_ GE214.out) | exact HB.out)⟩
 ·
  rw [if_neg c3] at H
  have c3b0 : (a0_4 == a1_4) = false := beq_eq_false_iff_ne.mpr c3
  have c3b1 : (a0_4 != a1_4) = true := bne_iff_ne.mpr c3
  obtain rfl := Option.some.inj H
  go_enter Tryz.func71, Tryz.ntmps71
  go_wp2_with (first | ((with_reducible refine gate_dst (N := 2) rfl ?_); refine box_event ?hg (N := 2) ?hd (cs := #[.int .i64 a0_0, .int .i64 a0_1, .int .i64 a0_2, .int .i64 a0_3, .int .i64 a0_4, .int .i32 a0_5]) (t := 35) ?hr ?_; (case hd => rfl); (case hg => rfl); (case hr => first | (go_simp; done) | (go_simp; rfl)); intro gb213 hg w11 hbox hb; have n0_ := Aside0.mk (below_step (by repeat (first | (with_reducible first | exact HB.out | apply below_alloc | apply pw_below_drewN | apply below_drew1) | exact HB.out)) hb); have n1_ := Aside0.mk (hbox); have n2_ := Aside0.mk ((by rw [hg]; exact (below_size (by repeat (first | (with_reducible first | exact HB.out | apply below_alloc | apply pw_below_drewN | apply below_drew1) | exact HB.out))) : w.heap.size ≤ gb213)); have n3_ := Aside0.mk ((by rw [hg]; exact (below_size (by repeat (first | (with_reducible first | exact HB.out | apply below_alloc | apply pw_below_drewN | apply below_drew1) | exact HB.out))) : w.heap.size ≤ gb213)); clear HB; have HB := n0_; have BK213 := n1_; have GW213 := n2_; have GE213 := n3_; clear n0_ n1_ n2_ n3_; clear hb hbox hg) | ((with_reducible refine gate_dst (N := 3) rfl ?_); refine box_event ?hg (N := 3) ?hd (cs := #[.int .i64 a1_0, .int .i64 a1_1, .int .i64 a1_2, .int .i64 a1_3, .int .i64 a1_4, .int .i32 a1_5]) (t := 35) ?hr ?_; (case hd => rfl); (case hg => rfl); (case hr => first | (go_simp; done) | (go_simp; rfl)); intro gb214 hg w12 hbox hb; have n0_ := Aside0.mk (blk_below (g := gb213) (o := .cells #[.int .i64 a0_0, .int .i64 a0_1, .int .i64 a0_2, .int .i64 a0_3, .int .i64 a0_4, .int .i32 a0_5] 35 (0, 0)) (by (with_reducible repeat (first | refine blk_drewN ?_ _ | refine blk_drew ?_ | refine blk_alloc ?_ _)); exact BK213.out) hb); have n1_ := Aside0.mk (below_step (by repeat (first | (with_reducible first | exact HB.out | apply below_alloc | apply pw_below_drewN | apply below_drew1 | refine below_set ?_ GE213.out) | exact HB.out)) hb); have n2_ := Aside0.mk (hbox); have n3_ := Aside0.mk ((by rw [hg]; exact (below_size (by repeat (first | (with_reducible first | exact HB.out | apply below_alloc | apply pw_below_drewN | apply below_drew1 | refine below_set ?_ GE213.out) | exact HB.out))) : w.heap.size ≤ gb214)); have n4_ := Aside0.mk ((by rw [hg]; exact (below_size (by repeat (first | (with_reducible first | exact HB.out | apply below_alloc | apply pw_below_drewN | apply below_drew1 | refine below_set ?_ GE213.out) | exact HB.out))) : w.heap.size ≤ gb214)); have n5_ := Aside0.mk ((by rw [hg]; exact Nat.ne_of_lt (blk_lt (g := gb213) (o := .cells #[.int .i64 a0_0, .int .i64 a0_1, .int .i64 a0_2, .int .i64 a0_3, .int .i64 a0_4, .int .i32 a0_5] 35 (0, 0)) (by (with_reducible repeat (first | refine blk_drewN ?_ _ | refine blk_drew ?_ | refine blk_alloc ?_ _)); exact BK213.out)) : gb213 ≠ gb214)); have n6_ := Aside0.mk ((by rw [hg]; exact Nat.ne_of_gt (blk_lt (g := gb213) (o := .cells #[.int .i64 a0_0, .int .i64 a0_1, .int .i64 a0_2, .int .i64 a0_3, .int .i64 a0_4, .int .i32 a0_5] 35 (0, 0)) (by (with_reducible repeat (first | refine blk_drewN ?_ _ | refine blk_drew ?_ | refine blk_alloc ?_ _)); exact BK213.out)) : gb214 ≠ gb213)); clear BK213; clear HB; have BK213 := n0_; have HB := n1_; have BK214 := n2_; have GW214 := n3_; have GE214 := n4_; have NB213_214 := n5_; have NB214_213 := n6_; clear n0_ n1_ n2_ n3_ n4_ n5_ n6_; clear hb hbox hg; have hnb13 := NB213_214.out; have hnc13 := NB214_213.out; have hcz14_0 : w12.cell? ⟨gb213, 0, none⟩ = some (.int .i64 a0_0) := (blk_cell BK213.out 0).trans rfl; have hcz14_1 : w12.cell? ⟨gb213, 1, none⟩ = some (.int .i64 a0_1) := (blk_cell BK213.out 1).trans rfl; have hcz14_2 : w12.cell? ⟨gb213, 2, none⟩ = some (.int .i64 a0_2) := (blk_cell BK213.out 2).trans rfl; have hcz14_3 : w12.cell? ⟨gb213, 3, none⟩ = some (.int .i64 a0_3) := (blk_cell BK213.out 3).trans rfl; have hcz14_4 : w12.cell? ⟨gb213, 4, none⟩ = some (.int .i64 a0_4) := (blk_cell BK213.out 4).trans rfl; have hcz14_5 : w12.cell? ⟨gb213, 5, none⟩ = some (.int .i32 a0_5) := (blk_cell BK213.out 5).trans rfl; have hfz14_0 := blk_frozen BK213.out 0; have hfz14_1 := blk_frozen BK213.out 1; have hfz14_2 := blk_frozen BK213.out 2; have hfz14_3 := blk_frozen BK213.out 3; have hfz14_4 := blk_frozen BK213.out 4; have hfz14_5 := blk_frozen BK213.out 5; have hcz15_0 : w12.cell? ⟨gb214, 0, none⟩ = some (.int .i64 a1_0) := (blk_cell BK214.out 0).trans rfl; have hcz15_1 : w12.cell? ⟨gb214, 1, none⟩ = some (.int .i64 a1_1) := (blk_cell BK214.out 1).trans rfl; have hcz15_2 : w12.cell? ⟨gb214, 2, none⟩ = some (.int .i64 a1_2) := (blk_cell BK214.out 2).trans rfl; have hcz15_3 : w12.cell? ⟨gb214, 3, none⟩ = some (.int .i64 a1_3) := (blk_cell BK214.out 3).trans rfl; have hcz15_4 : w12.cell? ⟨gb214, 4, none⟩ = some (.int .i64 a1_4) := (blk_cell BK214.out 4).trans rfl; have hcz15_5 : w12.cell? ⟨gb214, 5, none⟩ = some (.int .i32 a1_5) := (blk_cell BK214.out 5).trans rfl; have hfz15_0 := blk_frozen BK214.out 0; have hfz15_1 := blk_frozen BK214.out 1; have hfz15_2 := blk_frozen BK214.out 2; have hfz15_3 := blk_frozen BK214.out 3; have hfz15_4 := blk_frozen BK214.out 4; have hfz15_5 := blk_frozen BK214.out 5))
  go_ret
  exact ⟨by first | rfl | (simp [errW_none, errW_some] <;> rfl) | (simp [*, errW_none, errW_some] <;> rfl), by repeat (first | (with_reducible first | exact HB.out | apply below_alloc | apply pw_below_drewN | apply below_drew1 | refine below_set ?_ GE213.out | refine below_set ?_ GE214.out) | exact HB.out)⟩
end Go.Proofs.YtjlpaagnajmogaaGreat.PWalk
end
section
namespace Go.Proofs.YtjlpaagnajmogaaGreat.PWalk
open Go.RowKit Go.Proofs.YtjlpaagnajmogaaGreatW.PrintWords Go.Proofs.YtjlpaagnajmogaaGreatW.PrintLast Go.Proofs.YtjlpaagnajmogaaGreatW.PrintMore
set_option linter.unusedVariables false
set_option linter.unusedSimpArgs false
open Go.Shelf
attribute [local go_sem] Oper.semAt_some
theorem op_slice {K : Act → World → Prop} {Q : Exit → Act → World → Prop} {P : Program} {o : Oper} {a : Act} {W : World} (t : TypeId) (s : Operand) (lo hi : Option Operand) (ho : o.op = .slice t s lo hi none) {v x : Value} {vl vh : Option Value} (hs : a.eval s = v) (hl : lo.map a.eval = vl) (hh : hi.map a.eval = vh)
  (hrun : (Instr.sliceAt t v vl vh none).run P W = .ok x W) (h : K (a.put o.dst x) W) : o.wp P a W K Q := by
 unfold Oper.wp
 unfold execOp
 simp only [ho, Option.map_none, hs, hl, hh]
 simp [Result.andThen, Sem.run_bind, hrun, go_sem]
 exact h
theorem run_sliced {P : Program} {t e : TypeId} {A : Option Addr} {m c : Nat} {lo hi : Option Value} {x : Value} {W : World} (ht : P.underlying t = some (.slice e)) (h : (Instr.slice t (.slice A m c) lo hi none).run P W = .ok x W) : (Instr.sliceAt t (.slice A m c) lo hi none).run P W = .ok x W := by
 have he : P.elem t = e := by simp [Program.elem, ht]
 rw [run_sliceAt_slice W t _ _ _ _ (by rw [he]; exact ht)]
 exact h
theorem cut_toN {A : Option Addr} {n c k : Nat} (hm : k ≤ n) (hc : n ≤ c) (W : World) : (Instr.sliceAt 22 (.slice A n c) none (some (.int .i64 (k : Int))) none).run Tryz.prog W = .ok (.slice A k c) W := by
 obtain ⟨i, hi, _⟩ := info_get infoN
 exact run_sliced Tryz.underlying22 (cut_to _ _ .i64 Tryz.underlying22 hi A n c (k : Int) (by omega) (by omega) hc W)
theorem cut_fromN {A : Option Addr} {n c k : Nat} (hm : k ≤ n) (W : World) : (Instr.sliceAt 22 (.slice A n c) (some (.int .i64 (k : Int))) none none).run Tryz.prog W = .ok (.slice (if c = k then A else A.map (·.add (k * 6))) (n - k) (c - k)) W := by
 obtain ⟨i, hi, _, hs, _⟩ := info_get infoN
 exact run_sliced Tryz.underlying22 (cut_from _ _ .i64 Tryz.underlying22 hi 6 hs A n c (k : Int) (by omega) (by omega) W)
theorem less_is (a b : Dot) : redpencilref04_Less.f a.f0 a.f1 b.f0 b.f1 = some (dotLt a b) := by
 unfold redpencilref04_Less.f dotLt
 by_cases h : a.f1 = b.f1
 ·
  rw [if_pos h]; simp [h]
 ·
  rw [if_neg h]; simp [h]
theorem before_is (a b : Node) : redpencilref09_Before.f a.f0.f0 a.f0.f1 a.f1.f0 a.f1.f1 a.f2 a.f3 b.f0.f0 b.f0.f1 b.f1.f0 b.f1.f1 b.f2 b.f3 = some (nodeLt a b) := by
 unfold redpencilref09_Before.f nodeLt
 rw [less_is]
 by_cases h : a.f2 = b.f2
 ·
  rw [if_pos h, if_pos h]; rfl
 ·
  rw [if_neg h, if_neg h]
theorem RN.C {W : World} {base m c : Nat} {A : Option Addr} {xs : List Node} (h : RN W base (.slice A m c) xs) : xs.length = m ∧ m ≤ c ∧ Kd.C k35 W A m xs := by
 obtain ⟨A', c', e, hc, hC⟩ := Kd.R_reads h
 cases e
 exact ⟨rfl, hc, hC⟩
theorem C_to {α : Type} {d : Kd α} {W : World} {A : Option Addr} {m k : Nat} {xs : List α} (h : d.C W A m xs) (hm : xs.length = m) (hk : k ≤ m) : d.C W A k (xs.take k) := by
 subst hm
 have := Kd.C_take h hk
 rwa [show (xs.take k).length = k by rw [List.length_take]; omega] at this
theorem C_from {α : Type} {d : Kd α} {W : World} {A : Option Addr} {m k c : Nat} {xs : List α} (h : d.C W A m xs) (hm : xs.length = m) (hk : k ≤ m) (hc : m ≤ c) : d.C W (if c = k then A else A.map (·.add (k * d.sz))) (m - k) (xs.drop k) := by
 subst hm
 have := Kd.C_drop h hk hc
 rwa [List.length_drop] at this
theorem grown_below {W0 V V' : World} {v : Value} {xs : List Node} (hb : Below W0.heap.size W0 V) (hr : RN V W0.heap.size v xs) (hg : V.grownBy V' v.ownBlock) : Below W0.heap.size W0 V' :=
 hb.grown hg hb.size (fun k e => by
  obtain ⟨_, inner, ho, _⟩ := hr
  rcases ho.2 with ⟨rfl, _⟩ | ⟨g, c, cur, rfl, h1, _⟩
  ·
   cases e
  ·
   cases e; exact h1)
theorem grown_nil {V V' : World} (hg : V.grownBy V' (Value.slice none 0 0).ownBlock) : Below V.heap.size V V' := (Below.refl _ V).grown hg (Nat.le_refl _) (fun k e => by cases e)
end Go.Proofs.YtjlpaagnajmogaaGreat.PWalk
end
section
namespace Go.Proofs.YtjlpaagnajmogaaGreat.PWalk
end Go.Proofs.YtjlpaagnajmogaaGreat.PWalk
end
section
namespace Go.Proofs.YtjlpaagnajmogaaGreat.PWalk
end Go.Proofs.YtjlpaagnajmogaaGreat.PWalk
end
section
namespace Go.Proofs.YtjlpaagnajmogaaGreat.PWalk
open Go.RowKit Go.Proofs.YtjlpaagnajmogaaGreatW.PrintWords Go.Proofs.YtjlpaagnajmogaaGreatW.PrintLast Go.Proofs.YtjlpaagnajmogaaGreatW.PrintMore
set_option linter.unusedVariables false
set_option linter.unusedSimpArgs false
section
open Go.Shelf
attribute [local go_sem] Oper.semAt_some
def runeInB (r : Int) : Bool := decide (-9223372036854775808 ≤ r ∧ r ≤ 9223372036854775807)
def redpencilref10_Valid.f (k : Nat) (l0 : List Node) : Option Bool := if l0.length ≤ 1000000 ∧ (l0.all fun x => runeInB x.f3) = true then some (storeOk l0) else none
theorem rv_less (a b : Dot) : redpencilref04_Less.f a.f0 a.f1 b.f0 b.f1 = some (dotLt a b) := by
 unfold redpencilref04_Less.f dotLt
 by_cases h : a.f1 = b.f1
 ·
  rw [if_pos h]; simp [h]
 ·
  rw [if_neg h]; simp [h]
theorem rv_dot (a b : Int) : redpencilref04_Valid.f a b = some (dotOk ⟨a, b⟩) := by
 unfold redpencilref04_Valid.f dotOk
 by_cases h0 : a > 0 <;> by_cases h1 : a ≤ 64 <;> by_cases h2 : b > 0 <;> by_cases h3 : b ≤ 4294967295 <;> simp [h0, h1, h2, h3] <;> (try omega)
theorem rv_root (a b : Int) : redpencilref04_Root.f a b = some (dotRoot ⟨a, b⟩) := by
 unfold redpencilref04_Root.f dotRoot
 by_cases h0 : a = 0 <;> by_cases h1 : b = 0 <;> simp [h0, h1]
theorem rv_rune (r : Int) (h : runeInB r = true) : redpencilref02_Valid.f r = some (runeOk r) := by
 unfold redpencilref02_Valid.f redpencilref02_scalar.f runeOk
 have hw : wrap64 r = r := by unfold wrap64; unfold runeInB at h; rw [decide_eq_true_eq] at h; omega
 rw [hw]
 by_cases h0 : r = 0
 ·
  simp [h0]
 ·
  by_cases h1 : r ≥ 0 <;> by_cases h2 : r ≤ 1114111 <;> by_cases h3 : r < 55296 <;> by_cases h4 : r > 57343 <;> simp [h0, h1, h2, h3, h4] <;> omega
theorem rv_node (x : Node) (h : runeInB x.f3 = true) : redpencilref09_Valid.f x.f0.f0 x.f0.f1 x.f1.f0 x.f1.f1 x.f2 x.f3 = some (nodeOk x) := by
 unfold redpencilref09_Valid.f nodeOk
 simp only [rv_dot, rv_root, rv_rune _ h, Option.bind_some]
 have e : ((x.f0.f0 == x.f1.f0 && (x.f0.f1 == x.f1.f1)) = true) ↔ ¬ x.f1 ≠ x.f0 := by
  rw [Ne, Dot.ext_iff']; simp; omega
 simp only [e]
 by_cases h1 : dotOk x.f0 = true
 ·
  by_cases h4 : x.f1 ≠ x.f0
  ·
   by_cases h5 : x.f2 > 0
   ·
    have h5' : 1 ≤ x.f2 := by omega
    by_cases h6 : x.f2 ≤ 4611686018427387904
    ·
     cases h2 : dotRoot x.f1 <;> cases h3 : dotOk x.f1 <;> cases h8 : runeOk x.f3 <;> by_cases h7 : x.f3 = 0 <;> simp [h1, h2, h3, h4, h5, h5', h6, h7, h8]
    ·
     cases h2 : dotRoot x.f1 <;> cases h3 : dotOk x.f1 <;> simp [h1, h2, h3, h4, h5, h6]
   ·
    have h5' : ¬ 1 ≤ x.f2 := by omega
    cases h2 : dotRoot x.f1 <;> cases h3 : dotOk x.f1 <;> simp [h1, h2, h3, h4, h5, h5']
  ·
   cases h2 : dotRoot x.f1 <;> cases h3 : dotOk x.f1 <;> simp [h1, h2, h3, h4]
 ·
  simp [h1]
theorem incB_append (l : List Dot) (a b : Dot) : incB (l ++ [a, b]) = (incB (l ++ [a]) && dotLt a b) := by
 induction l with
 | nil => simp [incB]
 | cons c l ih =>
  cases l with
  | nil => simp [incB]
  | cons e l =>
   simp only [List.cons_append] at ih ⊢
   rw [incB, incB, ih, Bool.and_assoc]
theorem incB_left (l m : List Dot) (h : incB (l ++ m) = true) : incB l = true := by
 induction l with
 | nil => rfl
 | cons c l ih =>
  cases l with
  | nil => rfl
  | cons e l =>
   simp only [List.cons_append] at ih h
   rw [incB, Bool.and_eq_true] at h ⊢
   exact ⟨h.1, ih h.2⟩
theorem storeOk_append (l m : List Node) (h : storeOk (l ++ m) = true) : storeOk l = true := by
 unfold storeOk at h ⊢
 rw [Bool.and_eq_true, List.map_append, List.all_append, Bool.and_eq_true] at h
 rw [Bool.and_eq_true]
 exact ⟨h.1.1, incB_left _ _ h.2⟩
theorem storeOk_take {l : List Node} {i : Nat} (h : storeOk (l.take i) = false) : storeOk l = false := by
 rw [Bool.eq_false_iff] at h ⊢
 intro hl
 exact h (storeOk_append (l.take i) (l.drop i) (by rwa [List.take_append_drop]))
theorem storeOk_first {l : List Node} {x : Node} (h : l[0]? = some x) : storeOk (l.take 1) = nodeOk x := by
 cases l with
 | nil => cases h
 | cons y l => cases h; simp [storeOk, incB]
theorem storeOk_next {l : List Node} {j : Nat} {y x : Node} (hy : l[j]? = some y) (hx : l[j + 1]? = some x) : storeOk (l.take (j + 2)) = (storeOk (l.take (j + 1)) && (nodeOk x && dotLt y.f0 x.f0)) := by
 have h1 : l.take (j + 1) = l.take j ++ [y] := by rw [List.take_succ_eq_append_getElem (List.getElem?_eq_some_iff.1 hy).1, (List.getElem?_eq_some_iff.1 hy).2]
 have h2 : l.take (j + 2) = l.take j ++ [y] ++ [x] := by rw [← h1, List.take_succ_eq_append_getElem (List.getElem?_eq_some_iff.1 hx).1, (List.getElem?_eq_some_iff.1 hx).2]
 rw [h2, h1]
 unfold storeOk
 simp only [List.all_append, List.map_append, List.map_cons, List.map_nil, List.append_assoc, List.cons_append, List.nil_append, incB_append]
 simp only [List.all_cons, List.all_nil, Bool.and_true]
 cases (List.take j l).all nodeOk <;> cases nodeOk y <;> cases nodeOk x <;> cases incB (List.map (·.f0) (List.take j l) ++ [y.f0]) <;> simp
def rvAInv (W0 : World) (ad : Addr) (n c0 k j : Nat) (x y : Node) (b : Bool) (z1 z2 z4 z5 z6 z7 z8 z9 z10 z11 z12 z13 z14 z15 z16 z17 z18 z19 z20 z21 z22 z23 z24 z25 z26 z27 z28 z29 z30 z31 z32 z33 z34 : Value) (L : Array Bool) (ac : Act) (V : World) : Prop := ∃ (l0 l1 l2 l3 l4 l5 l6 l7 l8 l9 l10 l11 l12 l13 l14 l15 l16 l17 l18 l19 l20 l21 l22 l23 l24 : Bool), L = #[l0, l1, l2, l3, l4, l5, l6, l7, l8, l9, l10, l11, l12, l13, l14, l15, l16, l17, l18, l19, l20, l21, l22, l23, l24] ∧ ac = { tmps := #[.slice (some ad) n c0, z1, z2, .int .i64 (k : Int), z4, z5, z6, z7, z8, z9, selv l0 (.slice (some ad) n c0) (z10), selv l1 (.int .i64 (k : Int)) (z11), selv l2 (.pointer (some (ad.add (k * 6)))) (z12), selv l3 (vNode x) (z13), selv l4 (.bool false) (z14), selv l5 (.bool true) (z15), selv l6 (.bool true) (z16), selv l7 (undef) (z17), selv l8 (undef) (z18), selv l9 (undef) (z19), selv l10 (undef) (z20), selv l11 (undef) (z21), selv l12 (undef) (z22), selv l13 (undef) (z23), selv l14 (undef) (z24), selv l15 (undef) (z25), selv l16 (undef) (z26), selv l17 (undef) (z27), selv l18 (undef) (z28), selv l19 (undef) (z29), selv l20 (undef) (z30), selv l21 (undef) (z31), selv l22 (undef) (z32), selv l23 (undef) (z33), selv l24 (.bool true) (z34)], defers := [] } ∧ Aside0 (Below W0.heap.size W0 V)
def rvBInv (W0 : World) (ad : Addr) (n c0 k j : Nat) (x y : Node) (b : Bool) (z1 z2 z4 z5 z6 z7 z8 z9 z10 z11 z12 z13 z14 z15 z16 z17 z18 z19 z20 z21 z22 z23 z24 z25 z26 z27 z28 z29 z30 z31 z32 z33 z34 : Value) (L : Array Bool) (ac : Act) (V : World) : Prop := ∃ (l0 l1 l2 l3 l4 l5 l6 l7 l8 l9 l10 l11 l12 l13 l14 l15 l16 l17 l18 l19 l20 l21 l22 l23 l24 : Bool), L = #[l0, l1, l2, l3, l4, l5, l6, l7, l8, l9, l10, l11, l12, l13, l14, l15, l16, l17, l18, l19, l20, l21, l22, l23, l24] ∧ ac = { tmps := #[.slice (some ad) n c0, z1, z2, .int .i64 0, z4, z5, z6, z7, z8, z9, selv l0 (.slice (some ad) n c0) (z10), selv l1 (.int .i64 0) (z11), selv l2 (.pointer (some ad)) (z12), selv l3 (vNode x) (z13), selv l4 (.bool true) (z14), selv l5 (.bool false) (z15), selv l6 (.bool false) (z16), selv l7 (.int .i64 0) (z17), selv l8 (.bool false) (z18), selv l9 (.bool false) (z19), selv l10 (undef) (z20), selv l11 (undef) (z21), selv l12 (undef) (z22), selv l13 (undef) (z23), selv l14 (undef) (z24), selv l15 (undef) (z25), selv l16 (undef) (z26), selv l17 (undef) (z27), selv l18 (undef) (z28), selv l19 (undef) (z29), selv l20 (undef) (z30), selv l21 (undef) (z31), selv l22 (undef) (z32), selv l23 (.bool false) (z33), selv l24 (.bool false) (z34)], defers := [] } ∧ Aside0 (Below W0.heap.size W0 V)
def rvCInv (W0 : World) (ad : Addr) (n c0 k j : Nat) (x y : Node) (b : Bool) (z1 z2 z4 z5 z6 z7 z8 z9 z10 z11 z12 z13 z14 z15 z16 z17 z18 z19 z20 z21 z22 z23 z24 z25 z26 z27 z28 z29 z30 z31 z32 z33 z34 : Value) (L : Array Bool) (ac : Act) (V : World) : Prop := ∃ (l0 l1 l2 l3 l4 l5 l6 l7 l8 l9 l10 l11 l12 l13 l14 l15 l16 l17 l18 l19 l20 l21 l22 l23 l24 : Bool), L = #[l0, l1, l2, l3, l4, l5, l6, l7, l8, l9, l10, l11, l12, l13, l14, l15, l16, l17, l18, l19, l20, l21, l22, l23, l24] ∧ ac = { tmps := #[.slice (some ad) n c0, z1, z2, .int .i64 (k : Int), z4, z5, z6, z7, z8, z9, selv l0 (.slice (some ad) n c0) (z10), selv l1 (.int .i64 (k : Int)) (z11), selv l2 (.pointer (some (ad.add (k * 6)))) (z12), selv l3 (vNode x) (z13), selv l4 (.bool true) (z14), selv l5 (.bool false) (z15), selv l6 (.bool false) (z16), selv l7 (.int .i64 (k : Int)) (z17), selv l8 (.bool true) (z18), selv l9 (.bool true) (z19), selv l10 (.slice (some ad) n c0) (z20), selv l11 (.int .i64 (k : Int)) (z21), selv l12 (.int .i64 ((k : Int) - 1)) (z22), selv l13 (.pointer (some (ad.add (j * 6)))) (z23), selv l14 (.pointer (some (ad.add (j * 6)))) (z24), selv l15 (vDot y.f0) (z25), selv l16 (.slice (some ad) n c0) (z26), selv l17 (.int .i64 (k : Int)) (z27), selv l18 (.pointer (some (ad.add (k * 6)))) (z28), selv l19 (.pointer (some (ad.add (k * 6)))) (z29), selv l20 (vDot x.f0) (z30), selv l21 (.bool b) (z31), selv l22 (.bool (!b)) (z32), selv l23 (.bool (!b)) (z33), selv l24 (.bool (!b)) (z34)], defers := [] } ∧ Aside0 (Below W0.heap.size W0 V)
set_option maxHeartbeats 4000000 in
set_option maxRecDepth 100000 in
theorem redpencilref10_Valid.calls (k : Nat) (A0 : Option Addr) (c0 : Nat) (l0 : List Node) (r : Bool) (w : World) (hr0 : Kd.C k35 w A0 l0.length l0) (hc0 : l0.length ≤ c0) (h : redpencilref10_Valid.f k l0 = some r) :
  Calls Tryz.prog 14 #[.slice A0 l0.length c0] w fun e w' => e = .returned (.bool r) ∧ Below w.heap.size w w' := by
 unfold redpencilref10_Valid.f at h
 by_cases hl : l0.length ≤ 1000000 ∧ (l0.all fun x => runeInB x.f3) = true
 rotate_left
 ·
  rw [if_neg hl] at h; cases h
 rw [if_pos hl] at h
 have HRES := Aside0.mk (Option.some.inj h)
 have HR := Aside0.mk hr0
 have HRN : Aside0 (∀ x ∈ l0, runeInB x.f3 = true) := ⟨List.all_eq_true.1 hl.2⟩
 obtain ⟨n, Hn⟩ : ∃ n, Aside0 (l0.length = n) := ⟨_, ⟨rfl⟩⟩
 have hn4 : n ≤ 1000000 := by rw [← Hn.out]; exact hl.1
 rw [Hn.out]
 clear hl h hr0 hc0 k
 go_enter Tryz.func14, Tryz.ntmps14
 go_wp2
 go_loopw [3] (fun i wr => ∃ k : Nat, k ≤ n ∧ i = .int .i64 k ∧ Aside0 (storeOk (l0.take k) = true) ∧ Aside0 (Below w.heap.size w wr)) (fun i _ => n - (intOf i).toNat)
 case atStart => exact ⟨0, Nat.zero_le _, rfl, ⟨rfl⟩, ⟨Below.refl _ _⟩⟩
 case round =>
  obtain ⟨k, hk, rfl, HOK, HB⟩ := hrel
  by_cases hlt : k < n
  ·
   have hltb : decide ((k : Int) < (n : Int)) = true := decide_eq_true (by omega)
   obtain ⟨x, Hx⟩ : ∃ x, Aside0 (l0[k]? = some x) := ⟨_, ⟨List.getElem?_eq_getElem (by rw [Hn.out]; exact hlt)⟩⟩
   obtain ⟨ad, e, g0, g1, g2, g3, g4, g5⟩ := node_at HR.out (below_drew1 HB.out) k x Hx.out
   subst e
   have HG := Aside0.mk (And.intro g0 (And.intro g1 (And.intro g2 (And.intro g3 (And.intro g4 g5)))))
   have HKN : Aside0 (k < n ∧ n ≤ 1000000) := ⟨hlt, hn4⟩
   have HNV : Aside0 (redpencilref09_Valid.f x.f0.f0 x.f0.f1 x.f1.f0 x.f1.f1 x.f2 x.f3 = some (nodeOk x)) := ⟨rv_node x (HRN.out x (List.mem_of_getElem? Hx.out))⟩
   have HB9 := Aside0.mk (below_drew1 HB.out)
   clear g0 g1 g2 g3 g4 g5
   obtain ⟨v, Hv⟩ : ∃ v, Aside0 (nodeOk x = v) := ⟨_, ⟨rfl⟩⟩
   cases v with
   | false =>
    have HEND : Aside0 (r = false) := ⟨by
     rw [← HRES.out]
     cases k with
     | zero => exact storeOk_take (i := 1) ((storeOk_first Hx.out).trans Hv.out)
     | succ j =>
      obtain ⟨y, hy⟩ : ∃ y, l0[j]? = some y := ⟨_, List.getElem?_eq_getElem (by rw [Hn.out]; omega)⟩
      refine storeOk_take (i := j + 2) ?_
      rw [storeOk_next hy Hx.out, Hv.out]; simp⟩
    go_wp2
    refine AnyOrder.wp_region (by kernel_rfl) (rvAInv wr.drew ad n c0 k k x x false _ _ _ _ _ _ _ _ _ _ _ _ _ _ _ _ _ _ _ _ _ _ _ _ _ _ _ _ _ _ _ _ _) ⟨false, false, false, false, false, false, false, false, false, false, false, false, false, false, false, false, false, false, false, false, false, false, false, false, false, rfl, rfl, ⟨Below.refl _ _⟩⟩ ?step ?last
    case step =>
     rintro L ac V i ⟨l0, l1, l2, l3, l4, l5, l6, l7, l8, l9, l10, l11, l12, l13, l14, l15, l16, l17, l18, l19, l20, l21, l22, l23, l24, rfl, rfl, HF⟩ hi K hK
     have h1 : i = 0 ∨ i = 1 ∨ i = 2 ∨ i = 3 ∨ i = 4 ∨ i = 5 ∨ i = 6 ∨ i = 7 ∨ i = 8 ∨ i = 9 ∨ i = 10 ∨ i = 11 ∨ i = 12 ∨ i = 13 ∨ i = 14 ∨ i = 15 ∨ i = 16 ∨ i = 17 ∨ i = 18 ∨ i = 19 ∨ i = 20 ∨ i = 21 ∨ i = 22 ∨ i = 23 ∨ i = 24 := by
      have h1 := (AnyOrder.mem_ready hi).1
      clear hi hK
      change i < 25 at h1
      omega
     rcases h1 with rfl | rfl | rfl | rfl | rfl | rfl | rfl | rfl | rfl | rfl | rfl | rfl | rfl | rfl | rfl | rfl | rfl | rfl | rfl | rfl | rfl | rfl | rfl | rfl | rfl
     ·
      obtain rfl : l0 = false := (AnyOrder.mem_ready hi).2.1
      clear hi
      refine AnyOrder.wpOp_go rfl (by rfl) ?_
      go_wp2_with fail
      exact ⟨true, l1, l2, l3, l4, l5, l6, l7, l8, l9, l10, l11, l12, l13, l14, l15, l16, l17, l18, l19, l20, l21, l22, l23, l24, rfl, rfl, HF⟩
     ·
      obtain rfl : l1 = false := (AnyOrder.mem_ready hi).2.1
      clear hi
      refine AnyOrder.wpOp_go rfl (by rfl) ?_
      go_wp2_with fail
      exact ⟨l0, true, l2, l3, l4, l5, l6, l7, l8, l9, l10, l11, l12, l13, l14, l15, l16, l17, l18, l19, l20, l21, l22, l23, l24, rfl, rfl, HF⟩
     ·
      obtain rfl : l2 = false := (AnyOrder.mem_ready hi).2.1
      obtain rfl : l0 = true := AnyOrder.dep (q := 0) hi rfl rfl rfl
      obtain rfl : l1 = true := AnyOrder.dep (q := 1) hi rfl rfl rfl
      clear hi
      simp only [sel_true, selv_true] at hK ⊢
      have hkk := HKN.out.1
      have hkl2 := HKN.out.2
      refine AnyOrder.wpOp_go rfl (by rfl) ?_
      go_wp2_with fail
      exact ⟨true, true, true, l3, l4, l5, l6, l7, l8, l9, l10, l11, l12, l13, l14, l15, l16, l17, l18, l19, l20, l21, l22, l23, l24, rfl, rfl, HF⟩
     ·
      obtain rfl : l3 = false := (AnyOrder.mem_ready hi).2.1
      obtain rfl : l2 = true := AnyOrder.dep (q := 0) hi rfl rfl rfl
      clear hi
      simp only [sel_true, selv_true] at hK ⊢
      obtain ⟨g0, g1, g2, g3, g4, g5⟩ := HG.out
      have g0 := pw_cell_below HF.out g0
      have g1 := pw_cell_below HF.out g1
      have g2 := pw_cell_below HF.out g2
      have g3 := pw_cell_below HF.out g3
      have g4 := pw_cell_below HF.out g4
      have g5 := pw_cell_below HF.out g5
      refine AnyOrder.wpOp_go rfl (by rfl) ?_
      go_wp2_with fail
      exact ⟨l0, l1, true, true, l4, l5, l6, l7, l8, l9, l10, l11, l12, l13, l14, l15, l16, l17, l18, l19, l20, l21, l22, l23, l24, rfl, rfl, HF⟩
     ·
      obtain rfl : l4 = false := (AnyOrder.mem_ready hi).2.1
      obtain rfl : l3 = true := AnyOrder.dep (q := 0) hi rfl rfl rfl
      clear hi
      simp only [sel_true, selv_true] at hK ⊢
      refine AnyOrder.wpOp_go rfl (by rfl) ?_
      go_wp2_with fail
      refine (redpencilref09_Valid.calls _ _ _ _ _ _ false V (by rw [HNV.out, Hv.out])).mono ?_
      rintro e V' ⟨rfl, hb⟩
      exact hK _ _ ⟨l0, l1, l2, true, true, l5, l6, l7, l8, l9, l10, l11, l12, l13, l14, l15, l16, l17, l18, l19, l20, l21, l22, l23, l24, rfl, rfl, ⟨below_more HF.out hb⟩⟩
     ·
      obtain rfl : l5 = false := (AnyOrder.mem_ready hi).2.1
      obtain rfl : l4 = true := AnyOrder.dep (q := 0) hi rfl rfl rfl
      clear hi
      simp only [sel_true, selv_true] at hK ⊢
      refine AnyOrder.wpOp_go rfl (by rfl) ?_
      go_wp2_with fail
      exact ⟨l0, l1, l2, l3, true, true, l6, l7, l8, l9, l10, l11, l12, l13, l14, l15, l16, l17, l18, l19, l20, l21, l22, l23, l24, rfl, rfl, HF⟩
     ·
      obtain rfl : l6 = false := (AnyOrder.mem_ready hi).2.1
      obtain rfl : l5 = true := AnyOrder.dep (q := 0) hi rfl rfl rfl
      obtain rfl : l4 = true := AnyOrder.dep (q := 1) hi rfl rfl rfl
      clear hi
      simp only [sel_true, selv_true] at hK ⊢
      refine AnyOrder.wpOp_go rfl (by rfl) ?_
      go_wp2_with fail
      exact ⟨l0, l1, l2, l3, true, true, true, l7, l8, l9, l10, l11, l12, l13, l14, l15, l16, l17, l18, l19, l20, l21, l22, l23, l24, rfl, rfl, HF⟩
     ·
      obtain rfl : l7 = false := (AnyOrder.mem_ready hi).2.1
      obtain rfl : l6 = true := AnyOrder.dep (q := 0) hi rfl rfl rfl
      clear hi
      simp only [sel_true, selv_true] at hK ⊢
      refine AnyOrder.wpOp_out rfl (by rfl) ?_
      exact hK _ _ ⟨l0, l1, l2, l3, l4, l5, true, true, l8, l9, l10, l11, l12, l13, l14, l15, l16, l17, l18, l19, l20, l21, l22, l23, l24, rfl, rfl, HF⟩
     ·
      obtain rfl : l8 = false := (AnyOrder.mem_ready hi).2.1
      obtain rfl : l7 = true := AnyOrder.dep (q := 0) hi rfl rfl rfl
      obtain rfl : l6 = true := AnyOrder.dep (q := 1) hi rfl rfl rfl
      clear hi
      simp only [sel_true, selv_true] at hK ⊢
      refine AnyOrder.wpOp_out rfl (by rfl) ?_
      exact hK _ _ ⟨l0, l1, l2, l3, l4, l5, true, true, true, l9, l10, l11, l12, l13, l14, l15, l16, l17, l18, l19, l20, l21, l22, l23, l24, rfl, rfl, HF⟩
     ·
      obtain rfl : l9 = false := (AnyOrder.mem_ready hi).2.1
      obtain rfl : l8 = true := AnyOrder.dep (q := 0) hi rfl rfl rfl
      obtain rfl : l6 = true := AnyOrder.dep (q := 1) hi rfl rfl rfl
      clear hi
      simp only [sel_true, selv_true] at hK ⊢
      refine AnyOrder.wpOp_out rfl (by rfl) ?_
      exact hK _ _ ⟨l0, l1, l2, l3, l4, l5, true, l7, true, true, l10, l11, l12, l13, l14, l15, l16, l17, l18, l19, l20, l21, l22, l23, l24, rfl, rfl, HF⟩
     ·
      obtain rfl : l10 = false := (AnyOrder.mem_ready hi).2.1
      obtain rfl : l9 = true := AnyOrder.dep (q := 0) hi rfl rfl rfl
      clear hi
      simp only [sel_true, selv_true] at hK ⊢
      refine AnyOrder.wpOp_out rfl (by rfl) ?_
      exact hK _ _ ⟨l0, l1, l2, l3, l4, l5, l6, l7, l8, true, true, l11, l12, l13, l14, l15, l16, l17, l18, l19, l20, l21, l22, l23, l24, rfl, rfl, HF⟩
     ·
      obtain rfl : l11 = false := (AnyOrder.mem_ready hi).2.1
      obtain rfl : l9 = true := AnyOrder.dep (q := 0) hi rfl rfl rfl
      clear hi
      simp only [sel_true, selv_true] at hK ⊢
      refine AnyOrder.wpOp_out rfl (by rfl) ?_
      exact hK _ _ ⟨l0, l1, l2, l3, l4, l5, l6, l7, l8, true, l10, true, l12, l13, l14, l15, l16, l17, l18, l19, l20, l21, l22, l23, l24, rfl, rfl, HF⟩
     ·
      obtain rfl : l12 = false := (AnyOrder.mem_ready hi).2.1
      obtain rfl : l11 = true := AnyOrder.dep (q := 0) hi rfl rfl rfl
      obtain rfl : l9 = true := AnyOrder.dep (q := 1) hi rfl rfl rfl
      clear hi
      simp only [sel_true, selv_true] at hK ⊢
      refine AnyOrder.wpOp_out rfl (by rfl) ?_
      exact hK _ _ ⟨l0, l1, l2, l3, l4, l5, l6, l7, l8, true, l10, true, true, l13, l14, l15, l16, l17, l18, l19, l20, l21, l22, l23, l24, rfl, rfl, HF⟩
     ·
      obtain rfl : l13 = false := (AnyOrder.mem_ready hi).2.1
      obtain rfl : l10 = true := AnyOrder.dep (q := 0) hi rfl rfl rfl
      obtain rfl : l12 = true := AnyOrder.dep (q := 1) hi rfl rfl rfl
      obtain rfl : l9 = true := AnyOrder.dep (q := 2) hi rfl rfl rfl
      clear hi
      simp only [sel_true, selv_true] at hK ⊢
      refine AnyOrder.wpOp_out rfl (by rfl) ?_
      exact hK _ _ ⟨l0, l1, l2, l3, l4, l5, l6, l7, l8, true, true, l11, true, true, l14, l15, l16, l17, l18, l19, l20, l21, l22, l23, l24, rfl, rfl, HF⟩
     ·
      obtain rfl : l14 = false := (AnyOrder.mem_ready hi).2.1
      obtain rfl : l13 = true := AnyOrder.dep (q := 0) hi rfl rfl rfl
      obtain rfl : l9 = true := AnyOrder.dep (q := 1) hi rfl rfl rfl
      clear hi
      simp only [sel_true, selv_true] at hK ⊢
      refine AnyOrder.wpOp_out rfl (by rfl) ?_
      exact hK _ _ ⟨l0, l1, l2, l3, l4, l5, l6, l7, l8, true, l10, l11, l12, true, true, l15, l16, l17, l18, l19, l20, l21, l22, l23, l24, rfl, rfl, HF⟩
     ·
      obtain rfl : l15 = false := (AnyOrder.mem_ready hi).2.1
      obtain rfl : l14 = true := AnyOrder.dep (q := 0) hi rfl rfl rfl
      obtain rfl : l9 = true := AnyOrder.dep (q := 1) hi rfl rfl rfl
      clear hi
      simp only [sel_true, selv_true] at hK ⊢
      refine AnyOrder.wpOp_out rfl (by rfl) ?_
      exact hK _ _ ⟨l0, l1, l2, l3, l4, l5, l6, l7, l8, true, l10, l11, l12, l13, true, true, l16, l17, l18, l19, l20, l21, l22, l23, l24, rfl, rfl, HF⟩
     ·
      obtain rfl : l16 = false := (AnyOrder.mem_ready hi).2.1
      obtain rfl : l9 = true := AnyOrder.dep (q := 0) hi rfl rfl rfl
      clear hi
      simp only [sel_true, selv_true] at hK ⊢
      refine AnyOrder.wpOp_out rfl (by rfl) ?_
      exact hK _ _ ⟨l0, l1, l2, l3, l4, l5, l6, l7, l8, true, l10, l11, l12, l13, l14, l15, true, l17, l18, l19, l20, l21, l22, l23, l24, rfl, rfl, HF⟩
     ·
      obtain rfl : l17 = false := (AnyOrder.mem_ready hi).2.1
      obtain rfl : l9 = true := AnyOrder.dep (q := 0) hi rfl rfl rfl
      clear hi
      simp only [sel_true, selv_true] at hK ⊢
      refine AnyOrder.wpOp_out rfl (by rfl) ?_
      exact hK _ _ ⟨l0, l1, l2, l3, l4, l5, l6, l7, l8, true, l10, l11, l12, l13, l14, l15, l16, true, l18, l19, l20, l21, l22, l23, l24, rfl, rfl, HF⟩
     ·
      obtain rfl : l18 = false := (AnyOrder.mem_ready hi).2.1
      obtain rfl : l16 = true := AnyOrder.dep (q := 0) hi rfl rfl rfl
      obtain rfl : l17 = true := AnyOrder.dep (q := 1) hi rfl rfl rfl
      obtain rfl : l9 = true := AnyOrder.dep (q := 2) hi rfl rfl rfl
      clear hi
      simp only [sel_true, selv_true] at hK ⊢
      refine AnyOrder.wpOp_out rfl (by rfl) ?_
      exact hK _ _ ⟨l0, l1, l2, l3, l4, l5, l6, l7, l8, true, l10, l11, l12, l13, l14, l15, true, true, true, l19, l20, l21, l22, l23, l24, rfl, rfl, HF⟩
     ·
      obtain rfl : l19 = false := (AnyOrder.mem_ready hi).2.1
      obtain rfl : l18 = true := AnyOrder.dep (q := 0) hi rfl rfl rfl
      obtain rfl : l9 = true := AnyOrder.dep (q := 1) hi rfl rfl rfl
      clear hi
      simp only [sel_true, selv_true] at hK ⊢
      refine AnyOrder.wpOp_out rfl (by rfl) ?_
      exact hK _ _ ⟨l0, l1, l2, l3, l4, l5, l6, l7, l8, true, l10, l11, l12, l13, l14, l15, l16, l17, true, true, l20, l21, l22, l23, l24, rfl, rfl, HF⟩
     ·
      obtain rfl : l20 = false := (AnyOrder.mem_ready hi).2.1
      obtain rfl : l19 = true := AnyOrder.dep (q := 0) hi rfl rfl rfl
      obtain rfl : l9 = true := AnyOrder.dep (q := 1) hi rfl rfl rfl
      clear hi
      simp only [sel_true, selv_true] at hK ⊢
      refine AnyOrder.wpOp_out rfl (by rfl) ?_
      exact hK _ _ ⟨l0, l1, l2, l3, l4, l5, l6, l7, l8, true, l10, l11, l12, l13, l14, l15, l16, l17, l18, true, true, l21, l22, l23, l24, rfl, rfl, HF⟩
     ·
      obtain rfl : l21 = false := (AnyOrder.mem_ready hi).2.1
      obtain rfl : l15 = true := AnyOrder.dep (q := 0) hi rfl rfl rfl
      obtain rfl : l20 = true := AnyOrder.dep (q := 1) hi rfl rfl rfl
      obtain rfl : l9 = true := AnyOrder.dep (q := 2) hi rfl rfl rfl
      clear hi
      simp only [sel_true, selv_true] at hK ⊢
      refine AnyOrder.wpOp_out rfl (by rfl) ?_
      exact hK _ _ ⟨l0, l1, l2, l3, l4, l5, l6, l7, l8, true, l10, l11, l12, l13, l14, true, l16, l17, l18, l19, true, true, l22, l23, l24, rfl, rfl, HF⟩
     ·
      obtain rfl : l22 = false := (AnyOrder.mem_ready hi).2.1
      obtain rfl : l21 = true := AnyOrder.dep (q := 0) hi rfl rfl rfl
      obtain rfl : l9 = true := AnyOrder.dep (q := 1) hi rfl rfl rfl
      clear hi
      simp only [sel_true, selv_true] at hK ⊢
      refine AnyOrder.wpOp_out rfl (by rfl) ?_
      exact hK _ _ ⟨l0, l1, l2, l3, l4, l5, l6, l7, l8, true, l10, l11, l12, l13, l14, l15, l16, l17, l18, l19, l20, true, true, l23, l24, rfl, rfl, HF⟩
     ·
      obtain rfl : l23 = false := (AnyOrder.mem_ready hi).2.1
      obtain rfl : l9 = true := AnyOrder.dep (q := 0) hi rfl rfl rfl
      obtain rfl : l22 = true := AnyOrder.dep (q := 1) hi rfl rfl rfl
      obtain rfl : l6 = true := AnyOrder.dep (q := 2) hi rfl rfl rfl
      clear hi
      simp only [sel_true, selv_true] at hK ⊢
      refine AnyOrder.wpOp_out rfl (by rfl) ?_
      exact hK _ _ ⟨l0, l1, l2, l3, l4, l5, true, l7, l8, true, l10, l11, l12, l13, l14, l15, l16, l17, l18, l19, l20, l21, true, true, l24, rfl, rfl, HF⟩
     ·
      obtain rfl : l24 = false := (AnyOrder.mem_ready hi).2.1
      obtain rfl : l6 = true := AnyOrder.dep (q := 0) hi rfl rfl rfl
      obtain rfl : l23 = true := AnyOrder.dep (q := 1) hi rfl rfl rfl
      clear hi
      simp only [sel_true, selv_true] at hK ⊢
      refine AnyOrder.wpOp_go rfl (by rfl) ?_
      go_wp2_with fail
      exact ⟨l0, l1, l2, l3, l4, l5, true, l7, l8, l9, l10, l11, l12, l13, l14, l15, l16, l17, l18, l19, l20, l21, l22, true, true, rfl, rfl, HF⟩
    case last =>
     rintro L ac V ⟨l0, l1, l2, l3, l4, l5, l6, l7, l8, l9, l10, l11, l12, l13, l14, l15, l16, l17, l18, l19, l20, l21, l22, l23, l24, rfl, rfl, HF⟩ hr
     have hall := AnyOrder.all_listed rfl (by kernel_rfl) hr
     clear hr
     obtain rfl : l0 = true := hall 0 (by decide)
     obtain rfl : l1 = true := hall 1 (by decide)
     obtain rfl : l2 = true := hall 2 (by decide)
     obtain rfl : l3 = true := hall 3 (by decide)
     obtain rfl : l4 = true := hall 4 (by decide)
     obtain rfl : l5 = true := hall 5 (by decide)
     obtain rfl : l6 = true := hall 6 (by decide)
     obtain rfl : l7 = true := hall 7 (by decide)
     obtain rfl : l8 = true := hall 8 (by decide)
     obtain rfl : l9 = true := hall 9 (by decide)
     obtain rfl : l10 = true := hall 10 (by decide)
     obtain rfl : l11 = true := hall 11 (by decide)
     obtain rfl : l12 = true := hall 12 (by decide)
     obtain rfl : l13 = true := hall 13 (by decide)
     obtain rfl : l14 = true := hall 14 (by decide)
     obtain rfl : l15 = true := hall 15 (by decide)
     obtain rfl : l16 = true := hall 16 (by decide)
     obtain rfl : l17 = true := hall 17 (by decide)
     obtain rfl : l18 = true := hall 18 (by decide)
     obtain rfl : l19 = true := hall 19 (by decide)
     obtain rfl : l20 = true := hall 20 (by decide)
     obtain rfl : l21 = true := hall 21 (by decide)
     obtain rfl : l22 = true := hall 22 (by decide)
     obtain rfl : l23 = true := hall 23 (by decide)
     obtain rfl : l24 = true := hall 24 (by decide)
     clear hall
     simp only [sel_true, selv_true]
     have HB2 := Aside0.mk (below_more HB9.out HF.out)
     go_wp2
     go_ret
     exact ⟨by rw [HEND.out]; rfl, HB2.out⟩
   | true =>
    rcases Nat.eq_zero_or_pos k with rfl | hpos
    ·
     have HST : Aside0 (storeOk (l0.take 1) = true) := ⟨(storeOk_first Hx.out).trans Hv.out⟩
     have ha : ad.add (0 * 6) = ad := by simp [Addr.add]
     rw [ha] at HG
     clear ha
     go_wp2
     refine AnyOrder.wp_region (by kernel_rfl) (rvBInv wr.drew ad n c0 0 0 x x false _ _ _ _ _ _ _ _ _ _ _ _ _ _ _ _ _ _ _ _ _ _ _ _ _ _ _ _ _ _ _ _ _) ⟨false, false, false, false, false, false, false, false, false, false, false, false, false, false, false, false, false, false, false, false, false, false, false, false, false, rfl, rfl, ⟨Below.refl _ _⟩⟩ ?step ?last
     case step =>
      rintro L ac V i ⟨l0, l1, l2, l3, l4, l5, l6, l7, l8, l9, l10, l11, l12, l13, l14, l15, l16, l17, l18, l19, l20, l21, l22, l23, l24, rfl, rfl, HF⟩ hi K hK
      have h1 : i = 0 ∨ i = 1 ∨ i = 2 ∨ i = 3 ∨ i = 4 ∨ i = 5 ∨ i = 6 ∨ i = 7 ∨ i = 8 ∨ i = 9 ∨ i = 10 ∨ i = 11 ∨ i = 12 ∨ i = 13 ∨ i = 14 ∨ i = 15 ∨ i = 16 ∨ i = 17 ∨ i = 18 ∨ i = 19 ∨ i = 20 ∨ i = 21 ∨ i = 22 ∨ i = 23 ∨ i = 24 := by
       have h1 := (AnyOrder.mem_ready hi).1
       clear hi hK
       change i < 25 at h1
       omega
      rcases h1 with rfl | rfl | rfl | rfl | rfl | rfl | rfl | rfl | rfl | rfl | rfl | rfl | rfl | rfl | rfl | rfl | rfl | rfl | rfl | rfl | rfl | rfl | rfl | rfl | rfl
      ·
       obtain rfl : l0 = false := (AnyOrder.mem_ready hi).2.1
       clear hi
       refine AnyOrder.wpOp_go rfl (by rfl) ?_
       go_wp2_with fail
       exact ⟨true, l1, l2, l3, l4, l5, l6, l7, l8, l9, l10, l11, l12, l13, l14, l15, l16, l17, l18, l19, l20, l21, l22, l23, l24, rfl, rfl, HF⟩
      ·
       obtain rfl : l1 = false := (AnyOrder.mem_ready hi).2.1
       clear hi
       refine AnyOrder.wpOp_go rfl (by rfl) ?_
       go_wp2_with fail
       exact ⟨l0, true, l2, l3, l4, l5, l6, l7, l8, l9, l10, l11, l12, l13, l14, l15, l16, l17, l18, l19, l20, l21, l22, l23, l24, rfl, rfl, HF⟩
      ·
       obtain rfl : l2 = false := (AnyOrder.mem_ready hi).2.1
       obtain rfl : l0 = true := AnyOrder.dep (q := 0) hi rfl rfl rfl
       obtain rfl : l1 = true := AnyOrder.dep (q := 1) hi rfl rfl rfl
       clear hi
       simp only [sel_true, selv_true] at hK ⊢
       have hkk := HKN.out.1
       have hkl2 := HKN.out.2
       refine AnyOrder.wpOp_go rfl (by rfl) ?_
       go_wp2_with fail
       exact ⟨true, true, true, l3, l4, l5, l6, l7, l8, l9, l10, l11, l12, l13, l14, l15, l16, l17, l18, l19, l20, l21, l22, l23, l24, rfl, rfl, HF⟩
      ·
       obtain rfl : l3 = false := (AnyOrder.mem_ready hi).2.1
       obtain rfl : l2 = true := AnyOrder.dep (q := 0) hi rfl rfl rfl
       clear hi
       simp only [sel_true, selv_true] at hK ⊢
       obtain ⟨g0, g1, g2, g3, g4, g5⟩ := HG.out
       have g0 := pw_cell_below HF.out g0
       have g1 := pw_cell_below HF.out g1
       have g2 := pw_cell_below HF.out g2
       have g3 := pw_cell_below HF.out g3
       have g4 := pw_cell_below HF.out g4
       have g5 := pw_cell_below HF.out g5
       refine AnyOrder.wpOp_go rfl (by rfl) ?_
       go_wp2_with fail
       exact ⟨l0, l1, true, true, l4, l5, l6, l7, l8, l9, l10, l11, l12, l13, l14, l15, l16, l17, l18, l19, l20, l21, l22, l23, l24, rfl, rfl, HF⟩
      ·
       obtain rfl : l4 = false := (AnyOrder.mem_ready hi).2.1
       obtain rfl : l3 = true := AnyOrder.dep (q := 0) hi rfl rfl rfl
       clear hi
       simp only [sel_true, selv_true] at hK ⊢
       refine AnyOrder.wpOp_go rfl (by rfl) ?_
       go_wp2_with fail
       refine (redpencilref09_Valid.calls _ _ _ _ _ _ true V (by rw [HNV.out, Hv.out])).mono ?_
       rintro e V' ⟨rfl, hb⟩
       exact hK _ _ ⟨l0, l1, l2, true, true, l5, l6, l7, l8, l9, l10, l11, l12, l13, l14, l15, l16, l17, l18, l19, l20, l21, l22, l23, l24, rfl, rfl, ⟨below_more HF.out hb⟩⟩
      ·
       obtain rfl : l5 = false := (AnyOrder.mem_ready hi).2.1
       obtain rfl : l4 = true := AnyOrder.dep (q := 0) hi rfl rfl rfl
       clear hi
       simp only [sel_true, selv_true] at hK ⊢
       refine AnyOrder.wpOp_go rfl (by rfl) ?_
       go_wp2_with fail
       exact ⟨l0, l1, l2, l3, true, true, l6, l7, l8, l9, l10, l11, l12, l13, l14, l15, l16, l17, l18, l19, l20, l21, l22, l23, l24, rfl, rfl, HF⟩
      ·
       obtain rfl : l6 = false := (AnyOrder.mem_ready hi).2.1
       obtain rfl : l5 = true := AnyOrder.dep (q := 0) hi rfl rfl rfl
       obtain rfl : l4 = true := AnyOrder.dep (q := 1) hi rfl rfl rfl
       clear hi
       simp only [sel_true, selv_true] at hK ⊢
       refine AnyOrder.wpOp_go rfl (by rfl) ?_
       go_wp2_with fail
       exact ⟨l0, l1, l2, l3, true, true, true, l7, l8, l9, l10, l11, l12, l13, l14, l15, l16, l17, l18, l19, l20, l21, l22, l23, l24, rfl, rfl, HF⟩
      ·
       obtain rfl : l7 = false := (AnyOrder.mem_ready hi).2.1
       obtain rfl : l6 = true := AnyOrder.dep (q := 0) hi rfl rfl rfl
       clear hi
       simp only [sel_true, selv_true] at hK ⊢
       refine AnyOrder.wpOp_go rfl (by rfl) ?_
       go_wp2_with fail
       exact ⟨l0, l1, l2, l3, l4, l5, true, true, l8, l9, l10, l11, l12, l13, l14, l15, l16, l17, l18, l19, l20, l21, l22, l23, l24, rfl, rfl, HF⟩
      ·
       obtain rfl : l8 = false := (AnyOrder.mem_ready hi).2.1
       obtain rfl : l7 = true := AnyOrder.dep (q := 0) hi rfl rfl rfl
       obtain rfl : l6 = true := AnyOrder.dep (q := 1) hi rfl rfl rfl
       clear hi
       simp only [sel_true, selv_true] at hK ⊢
       refine AnyOrder.wpOp_go rfl (by rfl) ?_
       go_wp2_with fail
       exact ⟨l0, l1, l2, l3, l4, l5, true, true, true, l9, l10, l11, l12, l13, l14, l15, l16, l17, l18, l19, l20, l21, l22, l23, l24, rfl, rfl, HF⟩
      ·
       obtain rfl : l9 = false := (AnyOrder.mem_ready hi).2.1
       obtain rfl : l8 = true := AnyOrder.dep (q := 0) hi rfl rfl rfl
       obtain rfl : l6 = true := AnyOrder.dep (q := 1) hi rfl rfl rfl
       clear hi
       simp only [sel_true, selv_true] at hK ⊢
       refine AnyOrder.wpOp_go rfl (by rfl) ?_
       go_wp2_with fail
       exact ⟨l0, l1, l2, l3, l4, l5, true, l7, true, true, l10, l11, l12, l13, l14, l15, l16, l17, l18, l19, l20, l21, l22, l23, l24, rfl, rfl, HF⟩
      ·
       obtain rfl : l10 = false := (AnyOrder.mem_ready hi).2.1
       obtain rfl : l9 = true := AnyOrder.dep (q := 0) hi rfl rfl rfl
       clear hi
       simp only [sel_true, selv_true] at hK ⊢
       refine AnyOrder.wpOp_out rfl (by rfl) ?_
       exact hK _ _ ⟨l0, l1, l2, l3, l4, l5, l6, l7, l8, true, true, l11, l12, l13, l14, l15, l16, l17, l18, l19, l20, l21, l22, l23, l24, rfl, rfl, HF⟩
      ·
       obtain rfl : l11 = false := (AnyOrder.mem_ready hi).2.1
       obtain rfl : l9 = true := AnyOrder.dep (q := 0) hi rfl rfl rfl
       clear hi
       simp only [sel_true, selv_true] at hK ⊢
       refine AnyOrder.wpOp_out rfl (by rfl) ?_
       exact hK _ _ ⟨l0, l1, l2, l3, l4, l5, l6, l7, l8, true, l10, true, l12, l13, l14, l15, l16, l17, l18, l19, l20, l21, l22, l23, l24, rfl, rfl, HF⟩
      ·
       obtain rfl : l12 = false := (AnyOrder.mem_ready hi).2.1
       obtain rfl : l11 = true := AnyOrder.dep (q := 0) hi rfl rfl rfl
       obtain rfl : l9 = true := AnyOrder.dep (q := 1) hi rfl rfl rfl
       clear hi
       simp only [sel_true, selv_true] at hK ⊢
       refine AnyOrder.wpOp_out rfl (by rfl) ?_
       exact hK _ _ ⟨l0, l1, l2, l3, l4, l5, l6, l7, l8, true, l10, true, true, l13, l14, l15, l16, l17, l18, l19, l20, l21, l22, l23, l24, rfl, rfl, HF⟩
      ·
       obtain rfl : l13 = false := (AnyOrder.mem_ready hi).2.1
       obtain rfl : l10 = true := AnyOrder.dep (q := 0) hi rfl rfl rfl
       obtain rfl : l12 = true := AnyOrder.dep (q := 1) hi rfl rfl rfl
       obtain rfl : l9 = true := AnyOrder.dep (q := 2) hi rfl rfl rfl
       clear hi
       simp only [sel_true, selv_true] at hK ⊢
       refine AnyOrder.wpOp_out rfl (by rfl) ?_
       exact hK _ _ ⟨l0, l1, l2, l3, l4, l5, l6, l7, l8, true, true, l11, true, true, l14, l15, l16, l17, l18, l19, l20, l21, l22, l23, l24, rfl, rfl, HF⟩
      ·
       obtain rfl : l14 = false := (AnyOrder.mem_ready hi).2.1
       obtain rfl : l13 = true := AnyOrder.dep (q := 0) hi rfl rfl rfl
       obtain rfl : l9 = true := AnyOrder.dep (q := 1) hi rfl rfl rfl
       clear hi
       simp only [sel_true, selv_true] at hK ⊢
       refine AnyOrder.wpOp_out rfl (by rfl) ?_
       exact hK _ _ ⟨l0, l1, l2, l3, l4, l5, l6, l7, l8, true, l10, l11, l12, true, true, l15, l16, l17, l18, l19, l20, l21, l22, l23, l24, rfl, rfl, HF⟩
      ·
       obtain rfl : l15 = false := (AnyOrder.mem_ready hi).2.1
       obtain rfl : l14 = true := AnyOrder.dep (q := 0) hi rfl rfl rfl
       obtain rfl : l9 = true := AnyOrder.dep (q := 1) hi rfl rfl rfl
       clear hi
       simp only [sel_true, selv_true] at hK ⊢
       refine AnyOrder.wpOp_out rfl (by rfl) ?_
       exact hK _ _ ⟨l0, l1, l2, l3, l4, l5, l6, l7, l8, true, l10, l11, l12, l13, true, true, l16, l17, l18, l19, l20, l21, l22, l23, l24, rfl, rfl, HF⟩
      ·
       obtain rfl : l16 = false := (AnyOrder.mem_ready hi).2.1
       obtain rfl : l9 = true := AnyOrder.dep (q := 0) hi rfl rfl rfl
       clear hi
       simp only [sel_true, selv_true] at hK ⊢
       refine AnyOrder.wpOp_out rfl (by rfl) ?_
       exact hK _ _ ⟨l0, l1, l2, l3, l4, l5, l6, l7, l8, true, l10, l11, l12, l13, l14, l15, true, l17, l18, l19, l20, l21, l22, l23, l24, rfl, rfl, HF⟩
      ·
       obtain rfl : l17 = false := (AnyOrder.mem_ready hi).2.1
       obtain rfl : l9 = true := AnyOrder.dep (q := 0) hi rfl rfl rfl
       clear hi
       simp only [sel_true, selv_true] at hK ⊢
       refine AnyOrder.wpOp_out rfl (by rfl) ?_
       exact hK _ _ ⟨l0, l1, l2, l3, l4, l5, l6, l7, l8, true, l10, l11, l12, l13, l14, l15, l16, true, l18, l19, l20, l21, l22, l23, l24, rfl, rfl, HF⟩
      ·
       obtain rfl : l18 = false := (AnyOrder.mem_ready hi).2.1
       obtain rfl : l16 = true := AnyOrder.dep (q := 0) hi rfl rfl rfl
       obtain rfl : l17 = true := AnyOrder.dep (q := 1) hi rfl rfl rfl
       obtain rfl : l9 = true := AnyOrder.dep (q := 2) hi rfl rfl rfl
       clear hi
       simp only [sel_true, selv_true] at hK ⊢
       refine AnyOrder.wpOp_out rfl (by rfl) ?_
       exact hK _ _ ⟨l0, l1, l2, l3, l4, l5, l6, l7, l8, true, l10, l11, l12, l13, l14, l15, true, true, true, l19, l20, l21, l22, l23, l24, rfl, rfl, HF⟩
      ·
       obtain rfl : l19 = false := (AnyOrder.mem_ready hi).2.1
       obtain rfl : l18 = true := AnyOrder.dep (q := 0) hi rfl rfl rfl
       obtain rfl : l9 = true := AnyOrder.dep (q := 1) hi rfl rfl rfl
       clear hi
       simp only [sel_true, selv_true] at hK ⊢
       refine AnyOrder.wpOp_out rfl (by rfl) ?_
       exact hK _ _ ⟨l0, l1, l2, l3, l4, l5, l6, l7, l8, true, l10, l11, l12, l13, l14, l15, l16, l17, true, true, l20, l21, l22, l23, l24, rfl, rfl, HF⟩
      ·
       obtain rfl : l20 = false := (AnyOrder.mem_ready hi).2.1
       obtain rfl : l19 = true := AnyOrder.dep (q := 0) hi rfl rfl rfl
       obtain rfl : l9 = true := AnyOrder.dep (q := 1) hi rfl rfl rfl
       clear hi
       simp only [sel_true, selv_true] at hK ⊢
       refine AnyOrder.wpOp_out rfl (by rfl) ?_
       exact hK _ _ ⟨l0, l1, l2, l3, l4, l5, l6, l7, l8, true, l10, l11, l12, l13, l14, l15, l16, l17, l18, true, true, l21, l22, l23, l24, rfl, rfl, HF⟩
      ·
       obtain rfl : l21 = false := (AnyOrder.mem_ready hi).2.1
       obtain rfl : l15 = true := AnyOrder.dep (q := 0) hi rfl rfl rfl
       obtain rfl : l20 = true := AnyOrder.dep (q := 1) hi rfl rfl rfl
       obtain rfl : l9 = true := AnyOrder.dep (q := 2) hi rfl rfl rfl
       clear hi
       simp only [sel_true, selv_true] at hK ⊢
       refine AnyOrder.wpOp_out rfl (by rfl) ?_
       exact hK _ _ ⟨l0, l1, l2, l3, l4, l5, l6, l7, l8, true, l10, l11, l12, l13, l14, true, l16, l17, l18, l19, true, true, l22, l23, l24, rfl, rfl, HF⟩
      ·
       obtain rfl : l22 = false := (AnyOrder.mem_ready hi).2.1
       obtain rfl : l21 = true := AnyOrder.dep (q := 0) hi rfl rfl rfl
       obtain rfl : l9 = true := AnyOrder.dep (q := 1) hi rfl rfl rfl
       clear hi
       simp only [sel_true, selv_true] at hK ⊢
       refine AnyOrder.wpOp_out rfl (by rfl) ?_
       exact hK _ _ ⟨l0, l1, l2, l3, l4, l5, l6, l7, l8, true, l10, l11, l12, l13, l14, l15, l16, l17, l18, l19, l20, true, true, l23, l24, rfl, rfl, HF⟩
      ·
       obtain rfl : l23 = false := (AnyOrder.mem_ready hi).2.1
       obtain rfl : l9 = true := AnyOrder.dep (q := 0) hi rfl rfl rfl
       obtain rfl : l22 = true := AnyOrder.dep (q := 1) hi rfl rfl rfl
       obtain rfl : l6 = true := AnyOrder.dep (q := 2) hi rfl rfl rfl
       clear hi
       simp only [sel_true, selv_true] at hK ⊢
       refine AnyOrder.wpOp_go rfl (by rfl) ?_
       go_wp2_with fail
       exact ⟨l0, l1, l2, l3, l4, l5, true, l7, l8, true, l10, l11, l12, l13, l14, l15, l16, l17, l18, l19, l20, l21, true, true, l24, rfl, rfl, HF⟩
      ·
       obtain rfl : l24 = false := (AnyOrder.mem_ready hi).2.1
       obtain rfl : l6 = true := AnyOrder.dep (q := 0) hi rfl rfl rfl
       obtain rfl : l23 = true := AnyOrder.dep (q := 1) hi rfl rfl rfl
       clear hi
       simp only [sel_true, selv_true] at hK ⊢
       refine AnyOrder.wpOp_go rfl (by rfl) ?_
       go_wp2_with fail
       exact ⟨l0, l1, l2, l3, l4, l5, true, l7, l8, l9, l10, l11, l12, l13, l14, l15, l16, l17, l18, l19, l20, l21, l22, true, true, rfl, rfl, HF⟩
     case last =>
      rintro L ac V ⟨l0, l1, l2, l3, l4, l5, l6, l7, l8, l9, l10, l11, l12, l13, l14, l15, l16, l17, l18, l19, l20, l21, l22, l23, l24, rfl, rfl, HF⟩ hr
      have hall := AnyOrder.all_listed rfl (by kernel_rfl) hr
      clear hr
      obtain rfl : l0 = true := hall 0 (by decide)
      obtain rfl : l1 = true := hall 1 (by decide)
      obtain rfl : l2 = true := hall 2 (by decide)
      obtain rfl : l3 = true := hall 3 (by decide)
      obtain rfl : l4 = true := hall 4 (by decide)
      obtain rfl : l5 = true := hall 5 (by decide)
      obtain rfl : l6 = true := hall 6 (by decide)
      obtain rfl : l7 = true := hall 7 (by decide)
      obtain rfl : l8 = true := hall 8 (by decide)
      obtain rfl : l9 = true := hall 9 (by decide)
      obtain rfl : l10 = true := hall 10 (by decide)
      obtain rfl : l11 = true := hall 11 (by decide)
      obtain rfl : l12 = true := hall 12 (by decide)
      obtain rfl : l13 = true := hall 13 (by decide)
      obtain rfl : l14 = true := hall 14 (by decide)
      obtain rfl : l15 = true := hall 15 (by decide)
      obtain rfl : l16 = true := hall 16 (by decide)
      obtain rfl : l17 = true := hall 17 (by decide)
      obtain rfl : l18 = true := hall 18 (by decide)
      obtain rfl : l19 = true := hall 19 (by decide)
      obtain rfl : l20 = true := hall 20 (by decide)
      obtain rfl : l21 = true := hall 21 (by decide)
      obtain rfl : l22 = true := hall 22 (by decide)
      obtain rfl : l23 = true := hall 23 (by decide)
      obtain rfl : l24 = true := hall 24 (by decide)
      clear hall
      simp only [sel_true, selv_true]
      have HB2 := Aside0.mk (below_more HB9.out HF.out)
      go_wp2
      go_roundw
      case rel => exact ⟨1, by omega, rfl, HST, HB2⟩
      case measure => simp [intOf] <;> omega
    ·
     obtain ⟨j, HKJ⟩ : ∃ j, Aside0 (k = j + 1) := ⟨k - 1, ⟨by omega⟩⟩
     have hkj := HKJ.out
     obtain ⟨y, Hy⟩ : ∃ y, Aside0 (l0[j]? = some y) := ⟨_, ⟨List.getElem?_eq_getElem (by rw [Hn.out]; omega)⟩⟩
     obtain ⟨ad', e, y0, y1, _, _, _, _⟩ := node_at HR.out HB9.out j y Hy.out
     cases e
     have HY := Aside0.mk (And.intro y0 y1)
     clear y0 y1
     obtain ⟨b, Hb⟩ : ∃ b, Aside0 (dotLt y.f0 x.f0 = b) := ⟨_, ⟨rfl⟩⟩
     have HST : Aside0 (storeOk (l0.take (k + 1)) = b) := ⟨by have h1 := HOK.out; have h2 := Hx.out; rw [hkj] at h1 h2 ⊢; rw [storeOk_next Hy.out h2, h1, Hv.out, Hb.out]; rfl⟩
     clear hkj
     go_wp2
     refine AnyOrder.wp_region (by kernel_rfl) (rvCInv wr.drew ad n c0 k j x y b _ _ _ _ _ _ _ _ _ _ _ _ _ _ _ _ _ _ _ _ _ _ _ _ _ _ _ _ _ _ _ _ _) ⟨false, false, false, false, false, false, false, false, false, false, false, false, false, false, false, false, false, false, false, false, false, false, false, false, false, rfl, rfl, ⟨Below.refl _ _⟩⟩ ?step ?last
     case step =>
      rintro L ac V i ⟨l0, l1, l2, l3, l4, l5, l6, l7, l8, l9, l10, l11, l12, l13, l14, l15, l16, l17, l18, l19, l20, l21, l22, l23, l24, rfl, rfl, HF⟩ hi K hK
      have h1 : i = 0 ∨ i = 1 ∨ i = 2 ∨ i = 3 ∨ i = 4 ∨ i = 5 ∨ i = 6 ∨ i = 7 ∨ i = 8 ∨ i = 9 ∨ i = 10 ∨ i = 11 ∨ i = 12 ∨ i = 13 ∨ i = 14 ∨ i = 15 ∨ i = 16 ∨ i = 17 ∨ i = 18 ∨ i = 19 ∨ i = 20 ∨ i = 21 ∨ i = 22 ∨ i = 23 ∨ i = 24 := by
       have h1 := (AnyOrder.mem_ready hi).1
       clear hi hK
       change i < 25 at h1
       omega
      rcases h1 with rfl | rfl | rfl | rfl | rfl | rfl | rfl | rfl | rfl | rfl | rfl | rfl | rfl | rfl | rfl | rfl | rfl | rfl | rfl | rfl | rfl | rfl | rfl | rfl | rfl
      ·
       obtain rfl : l0 = false := (AnyOrder.mem_ready hi).2.1
       clear hi
       refine AnyOrder.wpOp_go rfl (by rfl) ?_
       go_wp2_with fail
       exact ⟨true, l1, l2, l3, l4, l5, l6, l7, l8, l9, l10, l11, l12, l13, l14, l15, l16, l17, l18, l19, l20, l21, l22, l23, l24, rfl, rfl, HF⟩
      ·
       obtain rfl : l1 = false := (AnyOrder.mem_ready hi).2.1
       clear hi
       refine AnyOrder.wpOp_go rfl (by rfl) ?_
       go_wp2_with fail
       exact ⟨l0, true, l2, l3, l4, l5, l6, l7, l8, l9, l10, l11, l12, l13, l14, l15, l16, l17, l18, l19, l20, l21, l22, l23, l24, rfl, rfl, HF⟩
      ·
       obtain rfl : l2 = false := (AnyOrder.mem_ready hi).2.1
       obtain rfl : l0 = true := AnyOrder.dep (q := 0) hi rfl rfl rfl
       obtain rfl : l1 = true := AnyOrder.dep (q := 1) hi rfl rfl rfl
       clear hi
       simp only [sel_true, selv_true] at hK ⊢
       have hkk := HKN.out.1
       have hkl2 := HKN.out.2
       refine AnyOrder.wpOp_go rfl (by rfl) ?_
       go_wp2_with fail
       exact ⟨true, true, true, l3, l4, l5, l6, l7, l8, l9, l10, l11, l12, l13, l14, l15, l16, l17, l18, l19, l20, l21, l22, l23, l24, rfl, rfl, HF⟩
      ·
       obtain rfl : l3 = false := (AnyOrder.mem_ready hi).2.1
       obtain rfl : l2 = true := AnyOrder.dep (q := 0) hi rfl rfl rfl
       clear hi
       simp only [sel_true, selv_true] at hK ⊢
       obtain ⟨g0, g1, g2, g3, g4, g5⟩ := HG.out
       have g0 := pw_cell_below HF.out g0
       have g1 := pw_cell_below HF.out g1
       have g2 := pw_cell_below HF.out g2
       have g3 := pw_cell_below HF.out g3
       have g4 := pw_cell_below HF.out g4
       have g5 := pw_cell_below HF.out g5
       refine AnyOrder.wpOp_go rfl (by rfl) ?_
       go_wp2_with fail
       exact ⟨l0, l1, true, true, l4, l5, l6, l7, l8, l9, l10, l11, l12, l13, l14, l15, l16, l17, l18, l19, l20, l21, l22, l23, l24, rfl, rfl, HF⟩
      ·
       obtain rfl : l4 = false := (AnyOrder.mem_ready hi).2.1
       obtain rfl : l3 = true := AnyOrder.dep (q := 0) hi rfl rfl rfl
       clear hi
       simp only [sel_true, selv_true] at hK ⊢
       refine AnyOrder.wpOp_go rfl (by rfl) ?_
       go_wp2_with fail
       refine (redpencilref09_Valid.calls _ _ _ _ _ _ true V (by rw [HNV.out, Hv.out])).mono ?_
       rintro e V' ⟨rfl, hb⟩
       exact hK _ _ ⟨l0, l1, l2, true, true, l5, l6, l7, l8, l9, l10, l11, l12, l13, l14, l15, l16, l17, l18, l19, l20, l21, l22, l23, l24, rfl, rfl, ⟨below_more HF.out hb⟩⟩
      ·
       obtain rfl : l5 = false := (AnyOrder.mem_ready hi).2.1
       obtain rfl : l4 = true := AnyOrder.dep (q := 0) hi rfl rfl rfl
       clear hi
       simp only [sel_true, selv_true] at hK ⊢
       refine AnyOrder.wpOp_go rfl (by rfl) ?_
       go_wp2_with fail
       exact ⟨l0, l1, l2, l3, true, true, l6, l7, l8, l9, l10, l11, l12, l13, l14, l15, l16, l17, l18, l19, l20, l21, l22, l23, l24, rfl, rfl, HF⟩
      ·
       obtain rfl : l6 = false := (AnyOrder.mem_ready hi).2.1
       obtain rfl : l5 = true := AnyOrder.dep (q := 0) hi rfl rfl rfl
       obtain rfl : l4 = true := AnyOrder.dep (q := 1) hi rfl rfl rfl
       clear hi
       simp only [sel_true, selv_true] at hK ⊢
       refine AnyOrder.wpOp_go rfl (by rfl) ?_
       go_wp2_with fail
       exact ⟨l0, l1, l2, l3, true, true, true, l7, l8, l9, l10, l11, l12, l13, l14, l15, l16, l17, l18, l19, l20, l21, l22, l23, l24, rfl, rfl, HF⟩
      ·
       obtain rfl : l7 = false := (AnyOrder.mem_ready hi).2.1
       obtain rfl : l6 = true := AnyOrder.dep (q := 0) hi rfl rfl rfl
       clear hi
       simp only [sel_true, selv_true] at hK ⊢
       refine AnyOrder.wpOp_go rfl (by rfl) ?_
       go_wp2_with fail
       exact ⟨l0, l1, l2, l3, l4, l5, true, true, l8, l9, l10, l11, l12, l13, l14, l15, l16, l17, l18, l19, l20, l21, l22, l23, l24, rfl, rfl, HF⟩
      ·
       obtain rfl : l8 = false := (AnyOrder.mem_ready hi).2.1
       obtain rfl : l7 = true := AnyOrder.dep (q := 0) hi rfl rfl rfl
       obtain rfl : l6 = true := AnyOrder.dep (q := 1) hi rfl rfl rfl
       clear hi
       simp only [sel_true, selv_true] at hK ⊢
       have hkj := HKJ.out
       have hp : decide ((k : Int) > 0) = true := decide_eq_true (by omega)
       have hp2 : decide ((0 : Int) < (k : Int)) = true := decide_eq_true (by omega)
       have hp3 : decide (0 < k) = true := decide_eq_true (by omega)
       clear hkj
       refine AnyOrder.wpOp_go rfl (by rfl) ?_
       go_wp2_with fail
       exact ⟨l0, l1, l2, l3, l4, l5, true, true, true, l9, l10, l11, l12, l13, l14, l15, l16, l17, l18, l19, l20, l21, l22, l23, l24, rfl, rfl, HF⟩
      ·
       obtain rfl : l9 = false := (AnyOrder.mem_ready hi).2.1
       obtain rfl : l8 = true := AnyOrder.dep (q := 0) hi rfl rfl rfl
       obtain rfl : l6 = true := AnyOrder.dep (q := 1) hi rfl rfl rfl
       clear hi
       simp only [sel_true, selv_true] at hK ⊢
       refine AnyOrder.wpOp_go rfl (by rfl) ?_
       go_wp2_with fail
       exact ⟨l0, l1, l2, l3, l4, l5, true, l7, true, true, l10, l11, l12, l13, l14, l15, l16, l17, l18, l19, l20, l21, l22, l23, l24, rfl, rfl, HF⟩
      ·
       obtain rfl : l10 = false := (AnyOrder.mem_ready hi).2.1
       obtain rfl : l9 = true := AnyOrder.dep (q := 0) hi rfl rfl rfl
       clear hi
       simp only [sel_true, selv_true] at hK ⊢
       refine AnyOrder.wpOp_go rfl (by rfl) ?_
       go_wp2_with fail
       exact ⟨l0, l1, l2, l3, l4, l5, l6, l7, l8, true, true, l11, l12, l13, l14, l15, l16, l17, l18, l19, l20, l21, l22, l23, l24, rfl, rfl, HF⟩
      ·
       obtain rfl : l11 = false := (AnyOrder.mem_ready hi).2.1
       obtain rfl : l9 = true := AnyOrder.dep (q := 0) hi rfl rfl rfl
       clear hi
       simp only [sel_true, selv_true] at hK ⊢
       refine AnyOrder.wpOp_go rfl (by rfl) ?_
       go_wp2_with fail
       exact ⟨l0, l1, l2, l3, l4, l5, l6, l7, l8, true, l10, true, l12, l13, l14, l15, l16, l17, l18, l19, l20, l21, l22, l23, l24, rfl, rfl, HF⟩
      ·
       obtain rfl : l12 = false := (AnyOrder.mem_ready hi).2.1
       obtain rfl : l11 = true := AnyOrder.dep (q := 0) hi rfl rfl rfl
       obtain rfl : l9 = true := AnyOrder.dep (q := 1) hi rfl rfl rfl
       clear hi
       simp only [sel_true, selv_true] at hK ⊢
       have hw : wrap64 ((k : Int) - 1) = (k : Int) - 1 := by have h1 := HKJ.out; have h2 := HKN.out; unfold wrap64; omega
       refine AnyOrder.wpOp_go rfl (by rfl) ?_
       go_wp2_with fail
       exact ⟨l0, l1, l2, l3, l4, l5, l6, l7, l8, true, l10, true, true, l13, l14, l15, l16, l17, l18, l19, l20, l21, l22, l23, l24, rfl, rfl, HF⟩
      ·
       obtain rfl : l13 = false := (AnyOrder.mem_ready hi).2.1
       obtain rfl : l10 = true := AnyOrder.dep (q := 0) hi rfl rfl rfl
       obtain rfl : l12 = true := AnyOrder.dep (q := 1) hi rfl rfl rfl
       obtain rfl : l9 = true := AnyOrder.dep (q := 2) hi rfl rfl rfl
       clear hi
       simp only [sel_true, selv_true] at hK ⊢
       have hkk : (k : Int) - 1 < n ∧ 0 ≤ (k : Int) - 1 := by have h1 := HKJ.out; have h2 := HKN.out; omega
       have hk0 := hkk.1
       have hk2 := hkk.2
       have hkl2 := HKN.out.2
       have hk1 : ((k : Int) - 1).toNat = j := by have h1 := HKJ.out; omega
       refine AnyOrder.wpOp_go rfl (by rfl) ?_
       go_wp2_with fail
       exact ⟨l0, l1, l2, l3, l4, l5, l6, l7, l8, true, true, l11, true, true, l14, l15, l16, l17, l18, l19, l20, l21, l22, l23, l24, rfl, rfl, HF⟩
      ·
       obtain rfl : l14 = false := (AnyOrder.mem_ready hi).2.1
       obtain rfl : l13 = true := AnyOrder.dep (q := 0) hi rfl rfl rfl
       obtain rfl : l9 = true := AnyOrder.dep (q := 1) hi rfl rfl rfl
       clear hi
       simp only [sel_true, selv_true] at hK ⊢
       refine AnyOrder.wpOp_go rfl (by rfl) ?_
       go_wp2_with fail
       exact ⟨l0, l1, l2, l3, l4, l5, l6, l7, l8, true, l10, l11, l12, true, true, l15, l16, l17, l18, l19, l20, l21, l22, l23, l24, rfl, rfl, HF⟩
      ·
       obtain rfl : l15 = false := (AnyOrder.mem_ready hi).2.1
       obtain rfl : l14 = true := AnyOrder.dep (q := 0) hi rfl rfl rfl
       obtain rfl : l9 = true := AnyOrder.dep (q := 1) hi rfl rfl rfl
       clear hi
       simp only [sel_true, selv_true] at hK ⊢
       obtain ⟨y0, y1⟩ := HY.out
       have y0 := pw_cell_below HF.out y0
       have y1 := pw_cell_below HF.out y1
       refine AnyOrder.wpOp_go rfl (by rfl) ?_
       go_wp2_with fail
       exact ⟨l0, l1, l2, l3, l4, l5, l6, l7, l8, true, l10, l11, l12, l13, true, true, l16, l17, l18, l19, l20, l21, l22, l23, l24, rfl, rfl, HF⟩
      ·
       obtain rfl : l16 = false := (AnyOrder.mem_ready hi).2.1
       obtain rfl : l9 = true := AnyOrder.dep (q := 0) hi rfl rfl rfl
       clear hi
       simp only [sel_true, selv_true] at hK ⊢
       refine AnyOrder.wpOp_go rfl (by rfl) ?_
       go_wp2_with fail
       exact ⟨l0, l1, l2, l3, l4, l5, l6, l7, l8, true, l10, l11, l12, l13, l14, l15, true, l17, l18, l19, l20, l21, l22, l23, l24, rfl, rfl, HF⟩
      ·
       obtain rfl : l17 = false := (AnyOrder.mem_ready hi).2.1
       obtain rfl : l9 = true := AnyOrder.dep (q := 0) hi rfl rfl rfl
       clear hi
       simp only [sel_true, selv_true] at hK ⊢
       refine AnyOrder.wpOp_go rfl (by rfl) ?_
       go_wp2_with fail
       exact ⟨l0, l1, l2, l3, l4, l5, l6, l7, l8, true, l10, l11, l12, l13, l14, l15, l16, true, l18, l19, l20, l21, l22, l23, l24, rfl, rfl, HF⟩
      ·
       obtain rfl : l18 = false := (AnyOrder.mem_ready hi).2.1
       obtain rfl : l16 = true := AnyOrder.dep (q := 0) hi rfl rfl rfl
       obtain rfl : l17 = true := AnyOrder.dep (q := 1) hi rfl rfl rfl
       obtain rfl : l9 = true := AnyOrder.dep (q := 2) hi rfl rfl rfl
       clear hi
       simp only [sel_true, selv_true] at hK ⊢
       have hkk := HKN.out.1
       have hkl2 := HKN.out.2
       refine AnyOrder.wpOp_go rfl (by rfl) ?_
       go_wp2_with fail
       exact ⟨l0, l1, l2, l3, l4, l5, l6, l7, l8, true, l10, l11, l12, l13, l14, l15, true, true, true, l19, l20, l21, l22, l23, l24, rfl, rfl, HF⟩
      ·
       obtain rfl : l19 = false := (AnyOrder.mem_ready hi).2.1
       obtain rfl : l18 = true := AnyOrder.dep (q := 0) hi rfl rfl rfl
       obtain rfl : l9 = true := AnyOrder.dep (q := 1) hi rfl rfl rfl
       clear hi
       simp only [sel_true, selv_true] at hK ⊢
       refine AnyOrder.wpOp_go rfl (by rfl) ?_
       go_wp2_with fail
       exact ⟨l0, l1, l2, l3, l4, l5, l6, l7, l8, true, l10, l11, l12, l13, l14, l15, l16, l17, true, true, l20, l21, l22, l23, l24, rfl, rfl, HF⟩
      ·
       obtain rfl : l20 = false := (AnyOrder.mem_ready hi).2.1
       obtain rfl : l19 = true := AnyOrder.dep (q := 0) hi rfl rfl rfl
       obtain rfl : l9 = true := AnyOrder.dep (q := 1) hi rfl rfl rfl
       clear hi
       simp only [sel_true, selv_true] at hK ⊢
       obtain ⟨g0, g1, g2, g3, g4, g5⟩ := HG.out
       have g0 := pw_cell_below HF.out g0
       have g1 := pw_cell_below HF.out g1
       have g2 := pw_cell_below HF.out g2
       have g3 := pw_cell_below HF.out g3
       have g4 := pw_cell_below HF.out g4
       have g5 := pw_cell_below HF.out g5
       refine AnyOrder.wpOp_go rfl (by rfl) ?_
       go_wp2_with fail
       exact ⟨l0, l1, l2, l3, l4, l5, l6, l7, l8, true, l10, l11, l12, l13, l14, l15, l16, l17, l18, true, true, l21, l22, l23, l24, rfl, rfl, HF⟩
      ·
       obtain rfl : l21 = false := (AnyOrder.mem_ready hi).2.1
       obtain rfl : l15 = true := AnyOrder.dep (q := 0) hi rfl rfl rfl
       obtain rfl : l20 = true := AnyOrder.dep (q := 1) hi rfl rfl rfl
       obtain rfl : l9 = true := AnyOrder.dep (q := 2) hi rfl rfl rfl
       clear hi
       simp only [sel_true, selv_true] at hK ⊢
       refine AnyOrder.wpOp_go rfl (by rfl) ?_
       go_wp2_with fail
       refine (redpencilref04_Less.calls _ _ _ _ b V (by rw [rv_less, Hb.out])).mono ?_
       rintro e V' ⟨rfl, hb⟩
       exact hK _ _ ⟨l0, l1, l2, l3, l4, l5, l6, l7, l8, true, l10, l11, l12, l13, l14, true, l16, l17, l18, l19, true, true, l22, l23, l24, rfl, rfl, ⟨below_more HF.out hb⟩⟩
      ·
       obtain rfl : l22 = false := (AnyOrder.mem_ready hi).2.1
       obtain rfl : l21 = true := AnyOrder.dep (q := 0) hi rfl rfl rfl
       obtain rfl : l9 = true := AnyOrder.dep (q := 1) hi rfl rfl rfl
       clear hi
       simp only [sel_true, selv_true] at hK ⊢
       refine AnyOrder.wpOp_go rfl (by rfl) ?_
       go_wp2_with fail
       exact ⟨l0, l1, l2, l3, l4, l5, l6, l7, l8, true, l10, l11, l12, l13, l14, l15, l16, l17, l18, l19, l20, true, true, l23, l24, rfl, rfl, HF⟩
      ·
       obtain rfl : l23 = false := (AnyOrder.mem_ready hi).2.1
       obtain rfl : l9 = true := AnyOrder.dep (q := 0) hi rfl rfl rfl
       obtain rfl : l22 = true := AnyOrder.dep (q := 1) hi rfl rfl rfl
       obtain rfl : l6 = true := AnyOrder.dep (q := 2) hi rfl rfl rfl
       clear hi
       simp only [sel_true, selv_true] at hK ⊢
       refine AnyOrder.wpOp_go rfl (by rfl) ?_
       go_wp2_with fail
       exact ⟨l0, l1, l2, l3, l4, l5, true, l7, l8, true, l10, l11, l12, l13, l14, l15, l16, l17, l18, l19, l20, l21, true, true, l24, rfl, rfl, HF⟩
      ·
       obtain rfl : l24 = false := (AnyOrder.mem_ready hi).2.1
       obtain rfl : l6 = true := AnyOrder.dep (q := 0) hi rfl rfl rfl
       obtain rfl : l23 = true := AnyOrder.dep (q := 1) hi rfl rfl rfl
       clear hi
       simp only [sel_true, selv_true] at hK ⊢
       refine AnyOrder.wpOp_go rfl (by rfl) ?_
       go_wp2_with fail
       exact ⟨l0, l1, l2, l3, l4, l5, true, l7, l8, l9, l10, l11, l12, l13, l14, l15, l16, l17, l18, l19, l20, l21, l22, true, true, rfl, rfl, HF⟩
     case last =>
      rintro L ac V ⟨l0, l1, l2, l3, l4, l5, l6, l7, l8, l9, l10, l11, l12, l13, l14, l15, l16, l17, l18, l19, l20, l21, l22, l23, l24, rfl, rfl, HF⟩ hr
      have hall := AnyOrder.all_listed rfl (by kernel_rfl) hr
      clear hr
      obtain rfl : l0 = true := hall 0 (by decide)
      obtain rfl : l1 = true := hall 1 (by decide)
      obtain rfl : l2 = true := hall 2 (by decide)
      obtain rfl : l3 = true := hall 3 (by decide)
      obtain rfl : l4 = true := hall 4 (by decide)
      obtain rfl : l5 = true := hall 5 (by decide)
      obtain rfl : l6 = true := hall 6 (by decide)
      obtain rfl : l7 = true := hall 7 (by decide)
      obtain rfl : l8 = true := hall 8 (by decide)
      obtain rfl : l9 = true := hall 9 (by decide)
      obtain rfl : l10 = true := hall 10 (by decide)
      obtain rfl : l11 = true := hall 11 (by decide)
      obtain rfl : l12 = true := hall 12 (by decide)
      obtain rfl : l13 = true := hall 13 (by decide)
      obtain rfl : l14 = true := hall 14 (by decide)
      obtain rfl : l15 = true := hall 15 (by decide)
      obtain rfl : l16 = true := hall 16 (by decide)
      obtain rfl : l17 = true := hall 17 (by decide)
      obtain rfl : l18 = true := hall 18 (by decide)
      obtain rfl : l19 = true := hall 19 (by decide)
      obtain rfl : l20 = true := hall 20 (by decide)
      obtain rfl : l21 = true := hall 21 (by decide)
      obtain rfl : l22 = true := hall 22 (by decide)
      obtain rfl : l23 = true := hall 23 (by decide)
      obtain rfl : l24 = true := hall 24 (by decide)
      clear hall
      simp only [sel_true, selv_true]
      have HB2 := Aside0.mk (below_more HB9.out HF.out)
      clear HF
      cases b with
      | true =>
       go_wp2
       go_roundw
       case rel => exact ⟨k + 1, by omega, by go_num, HST, HB2⟩
       case measure => simp [intOf] <;> omega
      | false =>
       have HEND : Aside0 (r = false) := ⟨by rw [← HRES.out]; exact storeOk_take HST.out⟩
       go_wp2
       go_ret
       exact ⟨by rw [HEND.out]; rfl, HB2.out⟩
  ·
   obtain rfl : k = n := by omega
   have hltb : decide ((k : Int) < (k : Int)) = false := decide_eq_false (by omega)
   have HEND : Aside0 (r = true) := ⟨by rw [← HRES.out, ← HOK.out, List.take_of_length_le (Nat.le_of_eq Hn.out)]⟩
   go_wp2
   go_ret
   exact ⟨by rw [HEND.out]; rfl, HB.out⟩
end
end Go.Proofs.YtjlpaagnajmogaaGreat.PWalk
end
section
namespace Go.Proofs.YtjlpaagnajmogaaGreat.PWalk
end Go.Proofs.YtjlpaagnajmogaaGreat.PWalk
end
section
namespace Go.Proofs.YtjlpaagnajmogaaGreat.PWalk
end Go.Proofs.YtjlpaagnajmogaaGreat.PWalk
end
