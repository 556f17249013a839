/-
  The law IndexDies: a store in which one more visible node was killed lacks its character, and nothing else changes. Part 7 of 10.
-/
import Derived.Test.YtjlpaagnajmogaaGreatDF
import Derived.Sort.QuietTacIn
import Derived.OrdersIn
section
namespace Go.Proofs.YtjlpaagnajmogaaGreat.PWalk
open Go.RowKit Go.Proofs.YtjlpaagnajmogaaGreatW.PrintWords Go.Proofs.YtjlpaagnajmogaaGreatW.PrintLast Go.Proofs.YtjlpaagnajmogaaGreatW.PrintMore
set_option linter.unusedVariables false
set_option linter.unusedSimpArgs false
attribute [local go_sem high] eqA24
def redpencilref04_Same.l0 : Nat → List (S24) → List (S24) → Int → Option (Bool)
 | 0, _, _, _ => none
 | k + 1, x0, x1, x5 => if x5 < (x0.length : Int) then (if 0 ≤ x5 then (if x5 < (x1.length : Int) then (if (!(((rd_T24 x0 x5).f0) == ((rd_T24 x1 x5).f0)) || (!(((rd_T24 x0 x5).f1) == ((rd_T24 x1 x5).f1)))) = true then (some false) else (redpencilref04_Same.l0 k x0 x1 (wrap64 (x5 + 1)))) else (none)) else (none)) else (some true)
def redpencilref04_Same.f (k : Nat) (l0 : List (S24)) (l1 : List (S24)) : Option (Bool) := if (l0.length : Int) = (l1.length : Int) then (redpencilref04_Same.l0 k l0 l1 0) else (some false)
set_option maxHeartbeats 8000000 in
set_option maxRecDepth 100000 in
theorem redpencilref04_Same.calls (k : Nat) (A0 : Option Addr) (c0 : Nat) (l0 : List (S24)) (A1 : Option Addr) (c1 : Nat) (l1 : List (S24)) (r : Bool) (w : World) (hr0 : Kd.C k24 w A0 l0.length l0) (hc0 : l0.length ≤ c0) (hr1 : Kd.C k24 w A1 l1.length l1) (hc1 : l1.length ≤ c1) (h : redpencilref04_Same.f k l0 l1 = some r) :
  Calls Tryz.prog 52 #[.slice A0 l0.length c0, .slice A1 l1.length c1] w fun e w' => e = .returned (.bool r) ∧ Drawn0 w w' := by
 have hu24 := Tryz.underlying24
 have HR0 := Aside0.mk hr0
 have HC0 := Aside0.mk hc0
 clear hr0 hc0
 have HR1 := Aside0.mk hr1
 have HC1 := Aside0.mk hc1
 clear hr1 hc1
 have H : (if (l0.length : Int) = (l1.length : Int) then (redpencilref04_Same.l0 k l0 l1 0) else (some false)) = some r := h
 clear h
 by_cases c3 : (l0.length : Int) = (l1.length : Int)
 ·
  rw [if_pos c3] at H
  have c3b0 : ((l0.length : Int) == (l1.length : Int)) = true := beq_iff_eq.mpr c3
  have c3b1 : ((l0.length : Int) != (l1.length : Int)) = false := bne_eq_false_iff_eq.mpr c3
  have c3b2 : (l0.length == l1.length) = true := by first | simpa using c3 | (simp at c3 ⊢; omega)
  clear c3
  have H' := Aside0.mk H
  clear H
  go_enter Tryz.func52, Tryz.ntmps52
  go_wp2
  repeat (go_quiet (fail); try go_wp2)
  go_loopg [5] k (fun kq v5 w' => ∃ (x5_1 : Int), v5 = .int .i64 x5_1 ∧ Aside0 (redpencilref04_Same.l0 kq l0 l1 x5_1 = some r) ∧ Aside0 (kq ≤ k) ∧ Drawn0 w w')
  case atStart => exact ⟨(0), (by first | rfl | (simp; done) | (simp [*]; done)), H', ⟨Nat.le_refl _⟩, by repeat (first | exact Drawn0.refl _ | apply Drawn0.step)⟩
  case round =>
   clear H'
   try clear c1
   try clear p2
   try clear c3
   try clear c3b0
   try clear c3b1
   try clear c3b2
   obtain ⟨x5_1, rfl, HA, HK1, ⟨m1, rfl⟩⟩ := hrel
   cases gk with
   | zero => exact absurd HA.out (by simp [redpencilref04_Same.l0])
   | succ k1 =>
    have H := HA.out
    clear HA
    simp only [redpencilref04_Same.l0] at H
    by_cases c4 : x5_1 < (l0.length : Int)
    ·
     rw [if_pos c4] at H
     have c4b0 : decide (x5_1 < (l0.length : Int)) = true := decide_eq_true c4
     clear c4
     by_cases c5 : 0 ≤ x5_1
     ·
      rw [if_pos c5] at H
      have c5b0 : decide (0 ≤ x5_1) = true := decide_eq_true c5
      clear c5
      by_cases c6 : x5_1 < (l1.length : Int)
      ·
       rw [if_pos c6] at H
       have c6b0 : decide (x5_1 < (l1.length : Int)) = true := decide_eq_true c6
       clear c6
       by_cases c7 : (!(((rd_T24 l0 x5_1).f0) == ((rd_T24 l1 x5_1).f0)) || (!(((rd_T24 l0 x5_1).f1) == ((rd_T24 l1 x5_1).f1)))) = true
       ·
        rw [if_pos c7] at H
        have c7b0 : (!(((rd_T24 l0 x5_1).f0) == ((rd_T24 l1 x5_1).f0)) || (!(((rd_T24 l0 x5_1).f1) == ((rd_T24 l1 x5_1).f1)))) = true := c7
        clear c7
        obtain rfl := Option.some.inj H
        have p126 : 0 ≤ (x5_1 : Int) := of_decide_eq_true (by first | (with_reducible assumption) | assumption)
        have q126 : x5_1 < (l0.length : Int) := of_decide_eq_true (by first | (with_reducible assumption) | assumption)
        obtain ⟨ad126, e126, hx126_0, hx126_1⟩ := at_T24 HR0.out x5_1 p126 q126
        cases e126
        replace p126 := eq_true p126
        replace q126 := eq_true q126
        have p127 : 0 ≤ (x5_1 : Int) := of_decide_eq_true (by first | (with_reducible assumption) | assumption)
        have q127 : x5_1 < (l1.length : Int) := of_decide_eq_true (by first | (with_reducible assumption) | assumption)
        obtain ⟨ad127, e127, hx127_0, hx127_1⟩ := at_T24 HR1.out x5_1 p127 q127
        cases e127
        replace p127 := eq_true p127
        replace q127 := eq_true q127
        go_wp2
        repeat (go_quiet (fail); try go_wp2)
        go_ret
        exact ⟨by first | rfl | (simp; done) | (simp [*]; done), by repeat (first | exact Drawn0.refl _ | apply Drawn0.step)⟩
       ·
        rw [if_neg c7] at H
        have c7b0 : (!(((rd_T24 l0 x5_1).f0) == ((rd_T24 l1 x5_1).f0)) || (!(((rd_T24 l0 x5_1).f1) == ((rd_T24 l1 x5_1).f1)))) = false := by simpa using c7
        clear c7
        have H' := Aside0.mk H
        clear H
        have p126 : 0 ≤ (x5_1 : Int) := of_decide_eq_true (by first | (with_reducible assumption) | assumption)
        have q126 : x5_1 < (l0.length : Int) := of_decide_eq_true (by first | (with_reducible assumption) | assumption)
        obtain ⟨ad126, e126, hx126_0, hx126_1⟩ := at_T24 HR0.out x5_1 p126 q126
        cases e126
        replace p126 := eq_true p126
        replace q126 := eq_true q126
        have p127 : 0 ≤ (x5_1 : Int) := of_decide_eq_true (by first | (with_reducible assumption) | assumption)
        have q127 : x5_1 < (l1.length : Int) := of_decide_eq_true (by first | (with_reducible assumption) | assumption)
        obtain ⟨ad127, e127, hx127_0, hx127_1⟩ := at_T24 HR1.out x5_1 p127 q127
        cases e127
        replace p127 := eq_true p127
        replace q127 := eq_true q127
        go_wp2
        repeat (go_quiet (fail); try go_wp2)
        go_roundg k1
        case measure => have := HK1.out; omega
        case rel => exact ⟨(wrap64 (x5_1 + 1)), (by first | rfl | (simp; done) | (simp [*]; done)), H', ⟨by have := HK1.out; omega⟩, by repeat (first | exact Drawn0.refl _ | apply Drawn0.step)⟩
      ·
       rw [if_neg c6] at H
       exact absurd H (by simp)
     ·
      rw [if_neg c5] at H
      exact absurd H (by simp)
    ·
     rw [if_neg c4] at H
     have c4b0 : decide (x5_1 < (l0.length : Int)) = false := decide_eq_false c4
     clear c4
     obtain rfl := Option.some.inj H
     go_wp2
     repeat (go_quiet (fail); try go_wp2)
     go_ret
     exact ⟨by first | rfl | (simp; done) | (simp [*]; done), by repeat (first | exact Drawn0.refl _ | apply Drawn0.step)⟩
 ·
  rw [if_neg c3] at H
  have c3b0 : ((l0.length : Int) == (l1.length : Int)) = false := beq_eq_false_iff_ne.mpr c3
  have c3b1 : ((l0.length : Int) != (l1.length : Int)) = true := bne_iff_ne.mpr c3
  have c3b2 : (l0.length == l1.length) = false := by first | simpa using c3 | (simp at c3 ⊢; omega)
  obtain rfl := Option.some.inj H
  go_enter Tryz.func52, Tryz.ntmps52
  go_wp2
  repeat (go_quiet (fail); try go_wp2)
  go_ret
  exact ⟨by first | rfl | (simp; done) | (simp [*]; done), by repeat (first | exact Drawn0.refl _ | apply Drawn0.step)⟩
end Go.Proofs.YtjlpaagnajmogaaGreat.PWalk
end
section
namespace Go.Proofs.YtjlpaagnajmogaaGreat.PWalk
open Go.RowKit Go.Proofs.YtjlpaagnajmogaaGreatW.PrintWords Go.Proofs.YtjlpaagnajmogaaGreatW.PrintLast Go.Proofs.YtjlpaagnajmogaaGreatW.PrintMore
set_option linter.unusedVariables false
set_option linter.unusedSimpArgs false
attribute [local go_sem high] eqA24
def redpencillaw12_of.f (l0 : List (S35)) (a1_0 : Int) (a1_1 : Int) (a2 : Int) (a3 : Int) : Option (Bool) := (index_Of.f l0 a1_0 a1_1).bind fun bt360 => (if bt360.1 = a2 then (some (bt360.2 == a3)) else (some false))
set_option maxHeartbeats 8000000 in
set_option maxRecDepth 100000 in
theorem redpencillaw12_of.calls (A0 : Option Addr) (c0 : Nat) (l0 : List (S35)) (a1_0 : Int) (a1_1 : Int) (a2 : Int) (a3 : Int) (r : Bool) (w : World) (hr0 : Kd.C k35 w A0 l0.length l0) (hc0 : l0.length ≤ c0) (h : redpencillaw12_of.f l0 a1_0 a1_1 a2 a3 = some r) :
  Calls Tryz.prog 41 #[.slice A0 l0.length c0, .agg #[.int .i64 a1_0, .int .i64 a1_1], .int .i64 a2, .int .i64 a3] w fun e w' => e = .returned (.bool r) ∧ Below w.heap.size w w' := by
 have hu24 := Tryz.underlying24
 have HR0 := Aside0.mk hr0
 have HC0 := Aside0.mk hc0
 clear hr0 hc0
 have HB := Aside0.mk (Below.refl w.heap.size w)
 have H : ((index_Of.f l0 a1_0 a1_1).bind fun bt360 => (if bt360.1 = a2 then (some (bt360.2 == a3)) else (some false))) = some r := h
 clear h
 replace H := Option.bind_eq_some_iff.mp H
 obtain ⟨⟨t360, t361⟩, A50, H⟩ := H
 replace H : (if t360 = a2 then (some (t361 == a3)) else (some false)) = some r := H
 have A5 := Aside0.mk A50
 clear A50
 by_cases c6 : t360 = a2
 ·
  rw [if_pos c6] at H
  have c6b0 : (t360 == a2) = true := beq_iff_eq.mpr c6
  have c6b1 : (t360 != a2) = false := bne_eq_false_iff_eq.mpr c6
  clear c6
  obtain rfl := Option.some.inj H
  go_enter Tryz.func41, Tryz.ntmps41
  go_wp2_with (first | ((with_reducible refine gate_dst (N := 5) rfl ?_); refine box_event ?hg (N := 5) ?hd (cs := #[.int .i64 a1_0, .int .i64 a1_1]) (t := 24) ?hr ?_; (case hd => rfl); (case hg => rfl); (case hr => first | (go_simp; done) | (go_simp; rfl)); intro gb359 hg w7 hbox hb; have n0_ := Aside0.mk (below_step (by repeat (first | (with_reducible first | exact HB.out | apply below_alloc | apply pw_below_drewN | apply below_drew1) | exact HB.out)) hb); have n1_ := Aside0.mk (hbox); have n2_ := Aside0.mk ((by rw [hg]; exact (below_size (by repeat (first | (with_reducible first | exact HB.out | apply below_alloc | apply pw_below_drewN | apply below_drew1) | exact HB.out))) : w.heap.size ≤ gb359)); have n3_ := Aside0.mk ((by rw [hg]; exact (below_size (by repeat (first | (with_reducible first | exact HB.out | apply below_alloc | apply pw_below_drewN | apply below_drew1) | exact HB.out))) : w.heap.size ≤ gb359)); clear HB; have HB := n0_; have BK359 := n1_; have GW359 := n2_; have GE359 := n3_; clear n0_ n1_ n2_ n3_; clear hb hbox hg; have hcz8_0 : w7.cell? ⟨gb359, 0, none⟩ = some (.int .i64 a1_0) := (blk_cell BK359.out 0).trans rfl; have hcz8_1 : w7.cell? ⟨gb359, 1, none⟩ = some (.int .i64 a1_1) := (blk_cell BK359.out 1).trans rfl; have hfz8_0 := blk_frozen BK359.out 0; have hfz8_1 := blk_frozen BK359.out 1) | ((with_reducible refine gate_callee (f := 83) rfl ?_); refine goesL_ (some 14) rfl rfl Tryz.func83 (by kernel_rfl) rfl #[.slice A0 l0.length c0, .agg #[.int .i64 a1_0, .int .i64 a1_1]] rfl (by (try simp only [List.map_toArray, List.map_cons, List.map_nil]); first | done | rfl | (simp only [List.length_drop, List.length_take]; rfl)) ?_; (with_reducible refine (index_Of.calls _ _ l0 a1_0 a1_1 t360 t361 _ ?side1 ?side2 A5.out).mono ?_); (case side1 => repeat (first | exact (Kd.C_below HR0.out HB.out) | (with_reducible refine Kd.C_alloc ?_ _) | (with_reducible refine Kd.C_drewN ?_ _) | (with_reducible refine Kd.C_drew ?_))); (case side2 => exact HC0.out); rintro e w9 ⟨rfl, hb⟩; refine ⟨_, rfl, ?_⟩; have n0_ := Aside0.mk (blk_below (g := gb359) (o := .cells #[.int .i64 a1_0, .int .i64 a1_1] 24 (0, 0)) (by (with_reducible repeat (first | refine blk_drewN ?_ _ | refine blk_drew ?_ | refine blk_alloc ?_ _)); exact BK359.out) hb); have n1_ := Aside0.mk (below_step (by repeat (first | (with_reducible first | exact HB.out | apply below_alloc | apply pw_below_drewN | apply below_drew1 | refine below_set ?_ GE359.out) | exact HB.out)) hb); clear BK359; clear HB; have BK359 := n0_; have HB := n1_; clear n0_ n1_; (try clear hb); (try clear hb2); (try clear hk); (try clear hi)))
  go_ret
  exact ⟨by first | rfl | (simp [errW_none, errW_some] <;> rfl) | (simp [*, errW_none, errW_some] <;> rfl), by repeat (first | (with_reducible first | exact HB.out | apply below_alloc | apply pw_below_drewN | apply below_drew1 | refine below_set ?_ GE359.out) | exact HB.out)⟩
 ·
  rw [if_neg c6] at H
  have c6b0 : (t360 == a2) = false := beq_eq_false_iff_ne.mpr c6
  have c6b1 : (t360 != a2) = true := bne_iff_ne.mpr c6
  obtain rfl := Option.some.inj H
  go_enter Tryz.func41, Tryz.ntmps41
  go_wp2_with (first | ((with_reducible refine gate_dst (N := 5) rfl ?_); refine box_event ?hg (N := 5) ?hd (cs := #[.int .i64 a1_0, .int .i64 a1_1]) (t := 24) ?hr ?_; (case hd => rfl); (case hg => rfl); (case hr => first | (go_simp; done) | (go_simp; rfl)); intro gb359 hg w10 hbox hb; have n0_ := Aside0.mk (below_step (by repeat (first | (with_reducible first | exact HB.out | apply below_alloc | apply pw_below_drewN | apply below_drew1) | exact HB.out)) hb); have n1_ := Aside0.mk (hbox); have n2_ := Aside0.mk ((by rw [hg]; exact (below_size (by repeat (first | (with_reducible first | exact HB.out | apply below_alloc | apply pw_below_drewN | apply below_drew1) | exact HB.out))) : w.heap.size ≤ gb359)); have n3_ := Aside0.mk ((by rw [hg]; exact (below_size (by repeat (first | (with_reducible first | exact HB.out | apply below_alloc | apply pw_below_drewN | apply below_drew1) | exact HB.out))) : w.heap.size ≤ gb359)); clear HB; have HB := n0_; have BK359 := n1_; have GW359 := n2_; have GE359 := n3_; clear n0_ n1_ n2_ n3_; clear hb hbox hg; have hcz11_0 : w10.cell? ⟨gb359, 0, none⟩ = some (.int .i64 a1_0) := (blk_cell BK359.out 0).trans rfl; have hcz11_1 : w10.cell? ⟨gb359, 1, none⟩ = some (.int .i64 a1_1) := (blk_cell BK359.out 1).trans rfl; have hfz11_0 := blk_frozen BK359.out 0; have hfz11_1 := blk_frozen BK359.out 1) | ((with_reducible refine gate_callee (f := 83) rfl ?_); refine goesL_ (some 14) rfl rfl Tryz.func83 (by kernel_rfl) rfl #[.slice A0 l0.length c0, .agg #[.int .i64 a1_0, .int .i64 a1_1]] rfl (by (try simp only [List.map_toArray, List.map_cons, List.map_nil]); first | done | rfl | (simp only [List.length_drop, List.length_take]; rfl)) ?_; (with_reducible refine (index_Of.calls _ _ l0 a1_0 a1_1 t360 t361 _ ?side1 ?side2 A5.out).mono ?_); (case side1 => repeat (first | exact (Kd.C_below HR0.out HB.out) | (with_reducible refine Kd.C_alloc ?_ _) | (with_reducible refine Kd.C_drewN ?_ _) | (with_reducible refine Kd.C_drew ?_))); (case side2 => exact HC0.out); rintro e w12 ⟨rfl, hb⟩; refine ⟨_, rfl, ?_⟩; have n0_ := Aside0.mk (blk_below (g := gb359) (o := .cells #[.int .i64 a1_0, .int .i64 a1_1] 24 (0, 0)) (by (with_reducible repeat (first | refine blk_drewN ?_ _ | refine blk_drew ?_ | refine blk_alloc ?_ _)); exact BK359.out) hb); have n1_ := Aside0.mk (below_step (by repeat (first | (with_reducible first | exact HB.out | apply below_alloc | apply pw_below_drewN | apply below_drew1 | refine below_set ?_ GE359.out) | exact HB.out)) hb); clear BK359; clear HB; have BK359 := n0_; have HB := n1_; clear n0_ n1_; (try clear hb); (try clear hb2); (try clear hk); (try clear hi)))
  go_ret
  exact ⟨by first | rfl | (simp [errW_none, errW_some] <;> rfl) | (simp [*, errW_none, errW_some] <;> rfl), by repeat (first | (with_reducible first | exact HB.out | apply below_alloc | apply pw_below_drewN | apply below_drew1 | refine below_set ?_ GE359.out) | exact HB.out)⟩
def redpencillaw12_before.f (l0 : List (S35)) (a1_0 : Int) (a1_1 : Int) (a2 : Int) (a3 : Int) : Option (Bool) := (index_Before.f l0 a1_0 a1_1).bind fun bt363 => (if bt363.1 = a2 then (some (bt363.2 == a3)) else (some false))
set_option maxHeartbeats 8000000 in
set_option maxRecDepth 100000 in
theorem redpencillaw12_before.calls (A0 : Option Addr) (c0 : Nat) (l0 : List (S35)) (a1_0 : Int) (a1_1 : Int) (a2 : Int) (a3 : Int) (r : Bool) (w : World) (hr0 : Kd.C k35 w A0 l0.length l0) (hc0 : l0.length ≤ c0) (h : redpencillaw12_before.f l0 a1_0 a1_1 a2 a3 = some r) :
  Calls Tryz.prog 42 #[.slice A0 l0.length c0, .agg #[.int .i64 a1_0, .int .i64 a1_1], .int .i64 a2, .int .i64 a3] w fun e w' => e = .returned (.bool r) ∧ Below w.heap.size w w' := by
 have hu24 := Tryz.underlying24
 have HR0 := Aside0.mk hr0
 have HC0 := Aside0.mk hc0
 clear hr0 hc0
 have HB := Aside0.mk (Below.refl w.heap.size w)
 have H : ((index_Before.f l0 a1_0 a1_1).bind fun bt363 => (if bt363.1 = a2 then (some (bt363.2 == a3)) else (some false))) = some r := h
 clear h
 replace H := Option.bind_eq_some_iff.mp H
 obtain ⟨⟨t363, t364⟩, A50, H⟩ := H
 replace H : (if t363 = a2 then (some (t364 == a3)) else (some false)) = some r := H
 have A5 := Aside0.mk A50
 clear A50
 by_cases c6 : t363 = a2
 ·
  rw [if_pos c6] at H
  have c6b0 : (t363 == a2) = true := beq_iff_eq.mpr c6
  have c6b1 : (t363 != a2) = false := bne_eq_false_iff_eq.mpr c6
  clear c6
  obtain rfl := Option.some.inj H
  go_enter Tryz.func42, Tryz.ntmps42
  go_wp2_with (first | ((with_reducible refine gate_dst (N := 5) rfl ?_); refine box_event ?hg (N := 5) ?hd (cs := #[.int .i64 a1_0, .int .i64 a1_1]) (t := 24) ?hr ?_; (case hd => rfl); (case hg => rfl); (case hr => first | (go_simp; done) | (go_simp; rfl)); intro gb362 hg w7 hbox hb; have n0_ := Aside0.mk (below_step (by repeat (first | (with_reducible first | exact HB.out | apply below_alloc | apply pw_below_drewN | apply below_drew1) | exact HB.out)) hb); have n1_ := Aside0.mk (hbox); have n2_ := Aside0.mk ((by rw [hg]; exact (below_size (by repeat (first | (with_reducible first | exact HB.out | apply below_alloc | apply pw_below_drewN | apply below_drew1) | exact HB.out))) : w.heap.size ≤ gb362)); have n3_ := Aside0.mk ((by rw [hg]; exact (below_size (by repeat (first | (with_reducible first | exact HB.out | apply below_alloc | apply pw_below_drewN | apply below_drew1) | exact HB.out))) : w.heap.size ≤ gb362)); clear HB; have HB := n0_; have BK362 := n1_; have GW362 := n2_; have GE362 := n3_; clear n0_ n1_ n2_ n3_; clear hb hbox hg; have hcz8_0 : w7.cell? ⟨gb362, 0, none⟩ = some (.int .i64 a1_0) := (blk_cell BK362.out 0).trans rfl; have hcz8_1 : w7.cell? ⟨gb362, 1, none⟩ = some (.int .i64 a1_1) := (blk_cell BK362.out 1).trans rfl; have hfz8_0 := blk_frozen BK362.out 0; have hfz8_1 := blk_frozen BK362.out 1) | ((with_reducible refine gate_callee (f := 84) rfl ?_); refine goesL_ (some 14) rfl rfl Tryz.func84 (by kernel_rfl) rfl #[.slice A0 l0.length c0, .agg #[.int .i64 a1_0, .int .i64 a1_1]] rfl (by (try simp only [List.map_toArray, List.map_cons, List.map_nil]); first | done | rfl | (simp only [List.length_drop, List.length_take]; rfl)) ?_; (with_reducible refine (index_Before.calls _ _ l0 a1_0 a1_1 t363 t364 _ ?side1 ?side2 A5.out).mono ?_); (case side1 => repeat (first | exact (Kd.C_below HR0.out HB.out) | (with_reducible refine Kd.C_alloc ?_ _) | (with_reducible refine Kd.C_drewN ?_ _) | (with_reducible refine Kd.C_drew ?_))); (case side2 => exact HC0.out); rintro e w9 ⟨rfl, hb⟩; refine ⟨_, rfl, ?_⟩; have n0_ := Aside0.mk (blk_below (g := gb362) (o := .cells #[.int .i64 a1_0, .int .i64 a1_1] 24 (0, 0)) (by (with_reducible repeat (first | refine blk_drewN ?_ _ | refine blk_drew ?_ | refine blk_alloc ?_ _)); exact BK362.out) hb); have n1_ := Aside0.mk (below_step (by repeat (first | (with_reducible first | exact HB.out | apply below_alloc | apply pw_below_drewN | apply below_drew1 | refine below_set ?_ GE362.out) | exact HB.out)) hb); clear BK362; clear HB; have BK362 := n0_; have HB := n1_; clear n0_ n1_; (try clear hb); (try clear hb2); (try clear hk); (try clear hi)))
  go_ret
  exact ⟨by first | rfl | (simp [errW_none, errW_some] <;> rfl) | (simp [*, errW_none, errW_some] <;> rfl), by repeat (first | (with_reducible first | exact HB.out | apply below_alloc | apply pw_below_drewN | apply below_drew1 | refine below_set ?_ GE362.out) | exact HB.out)⟩
 ·
  rw [if_neg c6] at H
  have c6b0 : (t363 == a2) = false := beq_eq_false_iff_ne.mpr c6
  have c6b1 : (t363 != a2) = true := bne_iff_ne.mpr c6
  obtain rfl := Option.some.inj H
  go_enter Tryz.func42, Tryz.ntmps42
  go_wp2_with (first | ((with_reducible refine gate_dst (N := 5) rfl ?_); refine box_event ?hg (N := 5) ?hd (cs := #[.int .i64 a1_0, .int .i64 a1_1]) (t := 24) ?hr ?_; (case hd => rfl); (case hg => rfl); (case hr => first | (go_simp; done) | (go_simp; rfl)); intro gb362 hg w10 hbox hb; have n0_ := Aside0.mk (below_step (by repeat (first | (with_reducible first | exact HB.out | apply below_alloc | apply pw_below_drewN | apply below_drew1) | exact HB.out)) hb); have n1_ := Aside0.mk (hbox); have n2_ := Aside0.mk ((by rw [hg]; exact (below_size (by repeat (first | (with_reducible first | exact HB.out | apply below_alloc | apply pw_below_drewN | apply below_drew1) | exact HB.out))) : w.heap.size ≤ gb362)); have n3_ := Aside0.mk ((by rw [hg]; exact (below_size (by repeat (first | (with_reducible first | exact HB.out | apply below_alloc | apply pw_below_drewN | apply below_drew1) | exact HB.out))) : w.heap.size ≤ gb362)); clear HB; have HB := n0_; have BK362 := n1_; have GW362 := n2_; have GE362 := n3_; clear n0_ n1_ n2_ n3_; clear hb hbox hg; have hcz11_0 : w10.cell? ⟨gb362, 0, none⟩ = some (.int .i64 a1_0) := (blk_cell BK362.out 0).trans rfl; have hcz11_1 : w10.cell? ⟨gb362, 1, none⟩ = some (.int .i64 a1_1) := (blk_cell BK362.out 1).trans rfl; have hfz11_0 := blk_frozen BK362.out 0; have hfz11_1 := blk_frozen BK362.out 1) | ((with_reducible refine gate_callee (f := 84) rfl ?_); refine goesL_ (some 14) rfl rfl Tryz.func84 (by kernel_rfl) rfl #[.slice A0 l0.length c0, .agg #[.int .i64 a1_0, .int .i64 a1_1]] rfl (by (try simp only [List.map_toArray, List.map_cons, List.map_nil]); first | done | rfl | (simp only [List.length_drop, List.length_take]; rfl)) ?_; (with_reducible refine (index_Before.calls _ _ l0 a1_0 a1_1 t363 t364 _ ?side1 ?side2 A5.out).mono ?_); (case side1 => repeat (first | exact (Kd.C_below HR0.out HB.out) | (with_reducible refine Kd.C_alloc ?_ _) | (with_reducible refine Kd.C_drewN ?_ _) | (with_reducible refine Kd.C_drew ?_))); (case side2 => exact HC0.out); rintro e w12 ⟨rfl, hb⟩; refine ⟨_, rfl, ?_⟩; have n0_ := Aside0.mk (blk_below (g := gb362) (o := .cells #[.int .i64 a1_0, .int .i64 a1_1] 24 (0, 0)) (by (with_reducible repeat (first | refine blk_drewN ?_ _ | refine blk_drew ?_ | refine blk_alloc ?_ _)); exact BK362.out) hb); have n1_ := Aside0.mk (below_step (by repeat (first | (with_reducible first | exact HB.out | apply below_alloc | apply pw_below_drewN | apply below_drew1 | refine below_set ?_ GE362.out) | exact HB.out)) hb); clear BK362; clear HB; have BK362 := n0_; have HB := n1_; clear n0_ n1_; (try clear hb); (try clear hb2); (try clear hk); (try clear hi)))
  go_ret
  exact ⟨by first | rfl | (simp [errW_none, errW_some] <;> rfl) | (simp [*, errW_none, errW_some] <;> rfl), by repeat (first | (with_reducible first | exact HB.out | apply below_alloc | apply pw_below_drewN | apply below_drew1 | refine below_set ?_ GE362.out) | exact HB.out)⟩
def index_Left.j0 : Nat → Int → List (S35) → Int → Option (Int × Int × Int)
 | 0, _, _, _ => none
 | k + 1, x1, x6, x7 => if x7 = 0 then (if x1 = 0 then (some (0, 0, 0)) else (if 0 ≤ (wrap64 (x1 - 1)) then (if (wrap64 (x1 - 1)) < (x6.length : Int) then (some ((rd_T35 x6 (wrap64 (x1 - 1))).f0.f0, (rd_T35 x6 (wrap64 (x1 - 1))).f0.f1, 0)) else (none)) else (none))) else (some (0, 0, x7))
def index_Left.f (k : Nat) (l0 : List (S35)) (a1 : Int) : Option (Int × Int × Int) := (index_visible.f l0).bind fun bt366 => (if a1 < 0 then ((index_when.f true 3).bind fun t370 => ((index_first.f k (([bt366.2, t370] : List Int))).bind fun t374 => (index_Left.j0 k a1 bt366.1 t374))) else ((index_when.f (decide (a1 > (bt366.1.length : Int))) 3).bind fun t375 => ((index_first.f k (([bt366.2, t375] : List Int))).bind fun t379 => (index_Left.j0 k a1 bt366.1 t379))))
set_option maxHeartbeats 8000000 in
set_option maxRecDepth 100000 in
theorem index_Left.calls (k : Nat) (A0 : Option Addr) (c0 : Nat) (l0 : List (S35)) (a1 : Int) (r1 : Int) (r2 : Int) (r3 : Int) (w : World) (hr0 : Kd.C k35 w A0 l0.length l0) (hc0 : l0.length ≤ c0) (h : index_Left.f k l0 a1 = some (r1, r2, r3)) :
  Calls Tryz.prog 86 #[.slice A0 l0.length c0, .int .i64 a1] w fun e w' => e = .returned (.tuple #[.agg #[.int .i64 r1, .int .i64 r2], .int .i64 r3]) ∧ Below w.heap.size w w' := by
 have hu24 := Tryz.underlying24
 have HR0 := Aside0.mk hr0
 have HC0 := Aside0.mk hc0
 clear hr0 hc0
 have HB := Aside0.mk (Below.refl w.heap.size w)
 have H : ((index_visible.f l0).bind fun bt366 => (if a1 < 0 then ((index_when.f true 3).bind fun t370 => ((index_first.f k (([bt366.2, t370] : List Int))).bind fun t374 => (index_Left.j0 k a1 bt366.1 t374))) else ((index_when.f (decide (a1 > (bt366.1.length : Int))) 3).bind fun t375 => ((index_first.f k (([bt366.2, t375] : List Int))).bind fun t379 => (index_Left.j0 k a1 bt366.1 t379))))) = some (r1, r2, r3) := h
 clear h
 replace H := Option.bind_eq_some_iff.mp H
 obtain ⟨⟨t366, t367⟩, A30, H⟩ := H
 replace H : (if a1 < 0 then ((index_when.f true 3).bind fun t370 => ((index_first.f k (([t367, t370] : List Int))).bind fun t374 => (index_Left.j0 k a1 t366 t374))) else ((index_when.f (decide (a1 > (t366.length : Int))) 3).bind fun t375 => ((index_first.f k (([t367, t375] : List Int))).bind fun t379 => (index_Left.j0 k a1 t366 t379)))) = some (r1, r2, r3) := H
 have A3 := Aside0.mk A30
 clear A30
 have HC4 := Aside0.mk H
 clear H
 go_enter Tryz.func86, Tryz.ntmps86
 go_upto_region 2 with (first | ((with_reducible refine gate_dst (N := 4) rfl ?_); (try (refine gate_guard (by rfl) ?_; dsimp only)); refine box_event ?hg (N := 4) ?hd (cs := #[.int .i64 0, .int .i64 0]) (t := 24) ?hr ?_; (case hd => rfl); (case hg => rfl); (case hr => first | (go_simp; done) | (go_simp; rfl)); intro gb365 hg w5 hbox hb; have n0_ := Aside0.mk (below_step (by repeat (first | (with_reducible first | exact HB.out | apply below_alloc | apply pw_below_drewN | apply below_drew1) | exact HB.out)) hb); have n1_ := Aside0.mk (hbox); have n2_ := Aside0.mk ((by rw [hg]; exact (below_size (by repeat (first | (with_reducible first | exact HB.out | apply below_alloc | apply pw_below_drewN | apply below_drew1) | exact HB.out))) : w.heap.size ≤ gb365)); have n3_ := Aside0.mk ((by rw [hg]; exact (below_size (by repeat (first | (with_reducible first | exact HB.out | apply below_alloc | apply pw_below_drewN | apply below_drew1) | exact HB.out))) : w.heap.size ≤ gb365)); clear HB; have HB := n0_; have BK365 := n1_; have GW365 := n2_; have GE365 := n3_; clear n0_ n1_ n2_ n3_; clear hb hbox hg) | ((with_reducible refine gate_callee (f := 98) rfl ?_); refine goesL_ (some 10) rfl rfl Tryz.func98 (by kernel_rfl) rfl #[.slice A0 l0.length c0] rfl (by (try simp only [List.map_toArray, List.map_cons, List.map_nil]); first | done | rfl | (simp only [List.length_drop, List.length_take]; rfl)) ?_; (with_reducible refine (index_visible.calls _ _ l0 t366 t367 _ ?side1 ?side2 A3.out).mono ?_); (case side1 => repeat (first | exact (Kd.C_below HR0.out HB.out) | (with_reducible refine Kd.C_alloc ?_ _) | (with_reducible refine Kd.C_drewN ?_ _) | (with_reducible refine Kd.C_drew ?_))); (case side2 => exact HC0.out); rintro e w6 ⟨v368, rfl, ho0, hb⟩; refine ⟨_, rfl, ?_⟩; have n0_ := Aside0.mk (Kd.R_lower ho0 (below_size (by repeat (first | (with_reducible first | exact HB.out | apply below_alloc | apply pw_below_drewN | apply below_drew1 | refine below_set ?_ GE365.out) | exact HB.out)))); have n1_ := Aside0.mk (blk_below (g := gb365) (o := .cells #[.int .i64 0, .int .i64 0] 24 (0, 0)) (by (with_reducible repeat (first | refine blk_drewN ?_ _ | refine blk_drew ?_ | refine blk_alloc ?_ _)); exact BK365.out) hb); have n2_ := Aside0.mk (below_step (by repeat (first | (with_reducible first | exact HB.out | apply below_alloc | apply pw_below_drewN | apply below_drew1 | refine below_set ?_ GE365.out) | exact HB.out)) hb); clear BK365; clear HB; have HO369 := n0_; have BK365 := n1_; have HB := n2_; clear n0_ n1_ n2_; (try clear hb); (try clear hb2); (try clear hk); (try clear hi); (try clear ho0)))
 (try simp only [Act.put, List.setIfInBounds_toArray, List.set_cons_zero, List.set_cons_succ])
 go_cut [7] (fun v7 wc => ∃ (kq : Nat) (x7_3 : Int), v7 = .int .i64 x7_3 ∧ Aside0 (index_Left.j0 kq a1 t366 x7_3 = some (r1, r2, r3)) ∧ Aside0 (kq ≤ k) ∧ Aside0 (Kd.R k35 35 wc w.heap.size (fun _ => True) v368 t366) ∧ Aside0 (wc.heap[gb365]? = some (.cells #[.int .i64 0, .int .i64 0] 24 (0, 0))) ∧ Aside0 (Below w.heap.size w wc))
 case first =>
  have H := HC4.out
  clear HC4
  by_cases c7 : a1 < 0
  ·
   rw [if_pos c7] at H
   have c7b0 : decide (a1 < 0) = true := decide_eq_true c7
   clear c7
   (first | rw [c7b0] | (simp only [i64_w, i32_w]; rw [c7b0]) | rw [c7b1] | skip)
   replace H := Option.bind_eq_some_iff.mp H
   obtain ⟨t370, A80, H⟩ := H
   replace H : ((index_first.f k (([t367, t370] : List Int))).bind fun t374 => (index_Left.j0 k a1 t366 t374)) = some (r1, r2, r3) := H
   have A8 := Aside0.mk A80
   clear A80
   obtain ⟨y371, hy371⟩ : ∃ y_ : List Int, y_ = (([t367, t370] : List Int)) := ⟨_, rfl⟩
   replace H : ((index_first.f k y371).bind fun t374 => (index_Left.j0 k a1 t366 t374)) = some (r1, r2, r3) := by first | (rw [hy371]; with_reducible exact H) | (have H2_ := (Option.bind_some _ _).symm.trans H; rw [hy371]; with_reducible exact H2_) | (have H2_ := (Option.bind_some _ _).symm.trans H; with_reducible exact H2_) | with_reducible exact H | (rw [hy371]; exact H) | exact H
   have Ny371 := Aside0.mk hy371
   clear hy371
   replace H := Option.bind_eq_some_iff.mp H
   obtain ⟨t374, A90, H⟩ := H
   replace H : (index_Left.j0 k a1 t366 t374) = some (r1, r2, r3) := H
   have A9 := Aside0.mk A90
   clear A90
   have H' := Aside0.mk H
   clear H
   go_wp2_with (first | ((with_reducible refine gate_callee (f := 100) rfl ?_); refine goesL_ (some 22) rfl rfl Tryz.func100 (by kernel_rfl) rfl #[.bool true, .int .i64 3] rfl (by (try simp only [List.map_toArray, List.map_cons, List.map_nil]); first | done | rfl | (simp only [List.length_drop, List.length_take]; rfl)) ?_; (with_reducible refine (index_when.calls true 3 t370 _ A8.out).mono ?_); rintro e w' ⟨rfl, ⟨nd, rfl⟩⟩; refine ⟨_, rfl, ?_⟩) | ((with_reducible refine gate_dst (N := 23) rfl ?_); (try (refine gate_guard (by rfl) ?_; dsimp only)); refine Kd.R_lit (Kd.int .i64) _ 29 ?hg (N := 23) ?hd (xs := ([t367, t370] : List Int)) (inner := [.int .i64 t367, .int .i64 t370]) (ok := fun _ => True) (okp := fun _ => True) ?hr ?hp (fun _ hk => hk) trivial (Below.refl _ _) (Nat.le_refl _) (by simp) ?_; (case hd => rfl); (case hg => rfl); (case hr => first | (go_simp; done) | (go_simp; rfl)); (case hp => exact (Reps.one (show Kd.M (Kd.int .i64) _ _ _ t367 [.int .i64 t367] from rfl) (Reps.one (show Kd.M (Kd.int .i64) _ _ _ t370 [.int .i64 t370] from rfl) (Reps.none _ _)))); intro v372 w10 ho11 hb hg_ hnew_; clear hg_ hnew_; (first | rw [← Ny371.out] at ho11 | (simp only [Int.reduceToNat] at ho11; rw [← Ny371.out] at ho11)); have n0_ := Aside0.mk (Kd.R_below (by (with_reducible repeat (first | apply Kd.R_alloc | apply Kd.R_drewN | apply Kd.R_drew)); exact HO369.out) hb); have n1_ := Aside0.mk (Kd.R_lower ho11 (below_size (by repeat (first | (with_reducible first | exact HB.out | apply below_alloc | apply pw_below_drewN | apply below_drew1 | refine below_set ?_ GE365.out) | exact HB.out)))); have n2_ := Aside0.mk (blk_below (g := gb365) (o := .cells #[.int .i64 0, .int .i64 0] 24 (0, 0)) (by (with_reducible repeat (first | refine blk_drewN ?_ _ | refine blk_drew ?_ | refine blk_alloc ?_ _)); exact BK365.out) hb); have n3_ := Aside0.mk (below_step (by repeat (first | (with_reducible first | exact HB.out | apply below_alloc | apply pw_below_drewN | apply below_drew1 | refine below_set ?_ GE365.out) | exact HB.out)) hb); clear HO369; clear BK365; clear HB; have HO369 := n0_; have HO373 := n1_; have BK365 := n2_; have HB := n3_; clear n0_ n1_ n2_ n3_; clear hb ho11; obtain ⟨Ao12, co12, eo12⟩ := Kd.R_slice HO373.out; subst eo12) | ((with_reducible refine gate_callee (f := 99) rfl ?_); refine goesL_ (some 24) rfl rfl Tryz.func99 (by kernel_rfl) rfl #[.slice Ao12 y371.length co12] rfl (by (try simp only [List.map_toArray, List.map_cons, List.map_nil]); first | done | rfl | (simp only [List.length_drop, List.length_take]; rfl)) ?_; (with_reducible refine (index_first.calls k _ _ y371 t374 _ ?side1 ?side2 A9.out).mono ?_); (case side1 => repeat (first | exact (Kd.R_reads' HO373.out).2.2 | (with_reducible refine Kd.C_alloc ?_ _) | (with_reducible refine Kd.C_drewN ?_ _) | (with_reducible refine Kd.C_drew ?_))); (case side2 => exact (Kd.R_reads' HO373.out).2.1); rintro e w' ⟨rfl, ⟨nd, rfl⟩⟩; refine ⟨_, rfl, ?_⟩))
   go_meet
   case rel => exact ⟨_, (t374), (by first | rfl | (simp; done) | (simp [*]; done)), H', ⟨by first | omega | exact Nat.le_refl _⟩, ⟨by (with_reducible repeat (first | apply Kd.R_alloc | apply Kd.R_drewN | apply Kd.R_drew)); exact HO369.out⟩, ⟨by (with_reducible repeat (first | refine blk_drewN ?_ _ | refine blk_drew ?_ | refine blk_alloc ?_ _)); exact BK365.out⟩, ⟨by repeat (first | (with_reducible first | exact HB.out | apply below_alloc | apply pw_below_drewN | apply below_drew1 | refine below_set ?_ GE365.out) | exact HB.out)⟩⟩
  ·
   rw [if_neg c7] at H
   have c7b0 : decide (a1 < 0) = false := decide_eq_false c7
   clear c7
   (first | rw [c7b0] | (simp only [i64_w, i32_w]; rw [c7b0]) | rw [c7b1] | skip)
   replace H := Option.bind_eq_some_iff.mp H
   obtain ⟨t375, A130, H⟩ := H
   replace H : ((index_first.f k (([t367, t375] : List Int))).bind fun t379 => (index_Left.j0 k a1 t366 t379)) = some (r1, r2, r3) := H
   have A13 := Aside0.mk A130
   clear A130
   obtain ⟨y376, hy376⟩ : ∃ y_ : List Int, y_ = (([t367, t375] : List Int)) := ⟨_, rfl⟩
   replace H : ((index_first.f k y376).bind fun t379 => (index_Left.j0 k a1 t366 t379)) = some (r1, r2, r3) := by first | (rw [hy376]; with_reducible exact H) | (have H2_ := (Option.bind_some _ _).symm.trans H; rw [hy376]; with_reducible exact H2_) | (have H2_ := (Option.bind_some _ _).symm.trans H; with_reducible exact H2_) | with_reducible exact H | (rw [hy376]; exact H) | exact H
   have Ny376 := Aside0.mk hy376
   clear hy376
   replace H := Option.bind_eq_some_iff.mp H
   obtain ⟨t379, A140, H⟩ := H
   replace H : (index_Left.j0 k a1 t366 t379) = some (r1, r2, r3) := H
   have A14 := Aside0.mk A140
   clear A140
   have H' := Aside0.mk H
   clear H
   obtain ⟨Ao15, co15, eo15⟩ := Kd.R_slice HO369.out
   subst eo15
   go_wp2_with (first | ((with_reducible refine gate_callee (f := 100) rfl ?_); refine goesL_ (some 22) rfl rfl Tryz.func100 (by kernel_rfl) rfl #[.bool (decide (a1 > (t366.length : Int))), .int .i64 3] rfl (by (try simp only [List.map_toArray, List.map_cons, List.map_nil]); first | done | rfl | (simp only [List.length_drop, List.length_take]; rfl)) ?_; (with_reducible refine (index_when.calls (decide (a1 > (t366.length : Int))) 3 t375 _ A13.out).mono ?_); rintro e w' ⟨rfl, ⟨nd, rfl⟩⟩; refine ⟨_, rfl, ?_⟩) | ((with_reducible refine gate_dst (N := 23) rfl ?_); (try (refine gate_guard (by rfl) ?_; dsimp only)); refine Kd.R_lit (Kd.int .i64) _ 29 ?hg (N := 23) ?hd (xs := ([t367, t375] : List Int)) (inner := [.int .i64 t367, .int .i64 t375]) (ok := fun _ => True) (okp := fun _ => True) ?hr ?hp (fun _ hk => hk) trivial (Below.refl _ _) (Nat.le_refl _) (by simp) ?_; (case hd => rfl); (case hg => rfl); (case hr => first | (go_simp; done) | (go_simp; rfl)); (case hp => exact (Reps.one (show Kd.M (Kd.int .i64) _ _ _ t367 [.int .i64 t367] from rfl) (Reps.one (show Kd.M (Kd.int .i64) _ _ _ t375 [.int .i64 t375] from rfl) (Reps.none _ _)))); intro v377 w16 ho17 hb hg_ hnew_; clear hg_ hnew_; (first | rw [← Ny376.out] at ho17 | (simp only [Int.reduceToNat] at ho17; rw [← Ny376.out] at ho17)); have n0_ := Aside0.mk (Kd.R_below (by (with_reducible repeat (first | apply Kd.R_alloc | apply Kd.R_drewN | apply Kd.R_drew)); exact HO369.out) hb); have n1_ := Aside0.mk (Kd.R_lower ho17 (below_size (by repeat (first | (with_reducible first | exact HB.out | apply below_alloc | apply pw_below_drewN | apply below_drew1 | refine below_set ?_ GE365.out) | exact HB.out)))); have n2_ := Aside0.mk (blk_below (g := gb365) (o := .cells #[.int .i64 0, .int .i64 0] 24 (0, 0)) (by (with_reducible repeat (first | refine blk_drewN ?_ _ | refine blk_drew ?_ | refine blk_alloc ?_ _)); exact BK365.out) hb); have n3_ := Aside0.mk (below_step (by repeat (first | (with_reducible first | exact HB.out | apply below_alloc | apply pw_below_drewN | apply below_drew1 | refine below_set ?_ GE365.out) | exact HB.out)) hb); clear HO369; clear BK365; clear HB; have HO369 := n0_; have HO378 := n1_; have BK365 := n2_; have HB := n3_; clear n0_ n1_ n2_ n3_; clear hb ho17; obtain ⟨Ao18, co18, eo18⟩ := Kd.R_slice HO378.out; subst eo18) | ((with_reducible refine gate_callee (f := 99) rfl ?_); refine goesL_ (some 24) rfl rfl Tryz.func99 (by kernel_rfl) rfl #[.slice Ao18 y376.length co18] rfl (by (try simp only [List.map_toArray, List.map_cons, List.map_nil]); first | done | rfl | (simp only [List.length_drop, List.length_take]; rfl)) ?_; (with_reducible refine (index_first.calls k _ _ y376 t379 _ ?side1 ?side2 A14.out).mono ?_); (case side1 => repeat (first | exact (Kd.R_reads' HO378.out).2.2 | (with_reducible refine Kd.C_alloc ?_ _) | (with_reducible refine Kd.C_drewN ?_ _) | (with_reducible refine Kd.C_drew ?_))); (case side2 => exact (Kd.R_reads' HO378.out).2.1); rintro e w' ⟨rfl, ⟨nd, rfl⟩⟩; refine ⟨_, rfl, ?_⟩))
   go_meet
   case rel => exact ⟨_, (t379), (by first | rfl | (simp; done) | (simp [*]; done)), H', ⟨by first | omega | exact Nat.le_refl _⟩, ⟨by (with_reducible repeat (first | apply Kd.R_alloc | apply Kd.R_drewN | apply Kd.R_drew)); exact HO369.out⟩, ⟨by (with_reducible repeat (first | refine blk_drewN ?_ _ | refine blk_drew ?_ | refine blk_alloc ?_ _)); exact BK365.out⟩, ⟨by repeat (first | (with_reducible first | exact HB.out | apply below_alloc | apply pw_below_drewN | apply below_drew1 | refine below_set ?_ GE365.out) | exact HB.out)⟩⟩
 case rest =>
  clear HC4
  try clear c1
  try clear p2
  try clear c7
  try clear c7b0
  try clear c8
  try clear c9
  try clear c10
  obtain ⟨kq, x7_3, rfl, HA, HJ3, HO_6, BK365, HB⟩ := hcut
  cases kq with
  | zero => exact absurd HA.out (by simp [index_Left.j0])
  | succ kj3 =>
   have H := HA.out
   clear HA
   simp only [index_Left.j0] at H
   by_cases c19 : x7_3 = 0
   ·
    rw [if_pos c19] at H
    have c19b0 : (x7_3 == 0) = true := beq_iff_eq.mpr c19
    have c19b1 : (x7_3 != 0) = false := bne_eq_false_iff_eq.mpr c19
    clear c19
    by_cases c20 : a1 = 0
    ·
     rw [if_pos c20] at H
     have c20b0 : (a1 == 0) = true := beq_iff_eq.mpr c20
     have c20b1 : (a1 != 0) = false := bne_eq_false_iff_eq.mpr c20
     clear c20
     simp only [Option.some.injEq, Prod.mk.injEq] at H
     obtain ⟨rfl, rfl, rfl⟩ := H
     have hcz21_0 : wc.cell? ⟨gb365, 0, none⟩ = some (.int .i64 0) := (blk_cell BK365.out 0).trans rfl
     have hcz21_1 : wc.cell? ⟨gb365, 1, none⟩ = some (.int .i64 0) := (blk_cell BK365.out 1).trans rfl
     have hfz21_0 := blk_frozen BK365.out 0
     have hfz21_1 := blk_frozen BK365.out 1
     go_wp2
     refine bodyPost_ret (results_ct rfl _ _ gb365 24 #[.int .i64 0, .int .i64 0] (0, 0) _ rfl (by (with_reducible repeat (first | refine blk_drewN ?_ _ | refine blk_drew ?_ | refine blk_alloc ?_ _)); refine blk_put (cs := #[.int .i64 0, .int .i64 0]) ?_ 1 _ rfl; (with_reducible repeat (first | refine blk_drewN ?_ _ | refine blk_drew ?_ | refine blk_alloc ?_ _)); refine blk_put (cs := #[.int .i64 0, .int .i64 0]) ?_ 0 _ rfl; (with_reducible repeat (first | refine blk_drewN ?_ _ | refine blk_drew ?_ | refine blk_alloc ?_ _)); exact BK365.out) Tryz.underlying24 rfl (by kernel_rfl)) rfl ?_
     exact ⟨by first | rfl | (simp [errW_none, errW_some] <;> rfl) | (simp [*, errW_none, errW_some] <;> rfl), by repeat (first | (with_reducible first | exact HB.out | apply below_alloc | apply pw_below_drewN | apply below_drew1 | refine below_set ?_ GE365.out) | exact HB.out)⟩
    ·
     rw [if_neg c20] at H
     have c20b0 : (a1 == 0) = false := beq_eq_false_iff_ne.mpr c20
     have c20b1 : (a1 != 0) = true := bne_iff_ne.mpr c20
     obtain ⟨ji22, hji22⟩ : ∃ j_ : Int, (wrap64 (a1 - 1)) = j_ := ⟨_, rfl⟩
     replace H : (if 0 ≤ (ji22) then (if (ji22) < (t366.length : Int) then (some ((rd_T35 t366 (ji22)).f0.f0, (rd_T35 t366 (ji22)).f0.f1, 0)) else (none)) else (none)) = some (r1, r2, r3) := by first | (rw [hji22] at H; exact H) | (simp only [hji22] at H ⊢; exact H)
     have hji22w : (IntKind.i64.wrap (a1 - 1)) = ji22 := (i64_w _).trans hji22
     by_cases c23 : 0 ≤ (ji22)
     ·
      rw [if_pos c23] at H
      have c23b0 : decide (0 ≤ (ji22)) = true := decide_eq_true c23
      clear c23
      by_cases c24 : (ji22) < (t366.length : Int)
      ·
       rw [if_pos c24] at H
       have c24b0 : decide ((ji22) < (t366.length : Int)) = true := decide_eq_true c24
       clear c24
       simp only [Option.some.injEq, Prod.mk.injEq] at H
       obtain ⟨rfl, rfl, rfl⟩ := H
       obtain ⟨Ao25, co25, eo25⟩ := Kd.R_slice HO_6.out
       subst eo25
       have p380 : 0 ≤ ((ji22) : Int) := of_decide_eq_true (by first | (with_reducible assumption) | assumption)
       have q380 : (ji22) < (t366.length : Int) := of_decide_eq_true (by first | (with_reducible assumption) | assumption)
       obtain ⟨ad380, e380, hx380_0, hx380_1, hx380_2, hx380_3, hx380_4, hx380_5⟩ := at_T35 (Kd.R_reads' HO_6.out).2.2 (ji22) p380 q380
       cases e380
       replace p380 := eq_true p380
       replace q380 := eq_true q380
       have hcz26_0 : wc.cell? ⟨gb365, 0, none⟩ = some (.int .i64 0) := (blk_cell BK365.out 0).trans rfl
       have hcz26_1 : wc.cell? ⟨gb365, 1, none⟩ = some (.int .i64 0) := (blk_cell BK365.out 1).trans rfl
       have hfz26_0 := blk_frozen BK365.out 0
       have hfz26_1 := blk_frozen BK365.out 1
       go_wp2
       refine bodyPost_ret (results_ct rfl _ _ gb365 24 #[.int .i64 ((rd_T35 t366 (ji22)).f0.f0), .int .i64 ((rd_T35 t366 (ji22)).f0.f1)] (0, 0) _ rfl (by (with_reducible repeat (first | refine blk_drewN ?_ _ | refine blk_drew ?_ | refine blk_alloc ?_ _)); refine blk_put (cs := #[.int .i64 ((rd_T35 t366 (ji22)).f0.f0), .int .i64 0]) ?_ 1 _ rfl; (with_reducible repeat (first | refine blk_drewN ?_ _ | refine blk_drew ?_ | refine blk_alloc ?_ _)); refine blk_put (cs := #[.int .i64 0, .int .i64 0]) ?_ 0 _ rfl; (with_reducible repeat (first | refine blk_drewN ?_ _ | refine blk_drew ?_ | refine blk_alloc ?_ _)); exact BK365.out) Tryz.underlying24 rfl (by kernel_rfl)) rfl ?_
       exact ⟨by first | rfl | (simp [errW_none, errW_some] <;> rfl) | (simp only [← hji22]; first | rfl | (simp [errW_none, errW_some] <;> rfl)) | (simp [*, errW_none, errW_some] <;> rfl), by repeat (first | (with_reducible first | exact HB.out | apply below_alloc | apply pw_below_drewN | apply below_drew1 | refine below_set ?_ GE365.out) | exact HB.out)⟩
      ·
       rw [if_neg c24] at H
       exact absurd H (by simp)
     ·
      rw [if_neg c23] at H
      exact absurd H (by simp)
   ·
    rw [if_neg c19] at H
    have c19b0 : (x7_3 == 0) = false := beq_eq_false_iff_ne.mpr c19
    have c19b1 : (x7_3 != 0) = true := bne_iff_ne.mpr c19
    simp only [Option.some.injEq, Prod.mk.injEq] at H
    obtain ⟨rfl, rfl, rfl⟩ := H
    have hcz27_0 : wc.cell? ⟨gb365, 0, none⟩ = some (.int .i64 0) := (blk_cell BK365.out 0).trans rfl
    have hcz27_1 : wc.cell? ⟨gb365, 1, none⟩ = some (.int .i64 0) := (blk_cell BK365.out 1).trans rfl
    have hfz27_0 := blk_frozen BK365.out 0
    have hfz27_1 := blk_frozen BK365.out 1
    go_wp2
    refine bodyPost_ret (results_ct rfl _ _ gb365 24 #[.int .i64 0, .int .i64 0] (0, 0) _ rfl (by (with_reducible repeat (first | refine blk_drewN ?_ _ | refine blk_drew ?_ | refine blk_alloc ?_ _)); refine blk_put (cs := #[.int .i64 0, .int .i64 0]) ?_ 1 _ rfl; (with_reducible repeat (first | refine blk_drewN ?_ _ | refine blk_drew ?_ | refine blk_alloc ?_ _)); refine blk_put (cs := #[.int .i64 0, .int .i64 0]) ?_ 0 _ rfl; (with_reducible repeat (first | refine blk_drewN ?_ _ | refine blk_drew ?_ | refine blk_alloc ?_ _)); exact BK365.out) Tryz.underlying24 rfl (by kernel_rfl)) rfl ?_
    exact ⟨by first | rfl | (simp [errW_none, errW_some] <;> rfl) | (simp [*, errW_none, errW_some] <;> rfl), by repeat (first | (with_reducible first | exact HB.out | apply below_alloc | apply pw_below_drewN | apply below_drew1 | refine below_set ?_ GE365.out) | exact HB.out)⟩
def redpencillaw12_left.f (k : Nat) (l0 : List (S35)) (a1 : Int) (a2_0 : Int) (a2_1 : Int) (a3 : Int) : Option (Bool) := (index_Left.f k l0 a1).bind fun bt382 => (if (bt382.1 == a2_0 && (bt382.2.1 == a2_1)) = true then (some (bt382.2.2 == a3)) else (some false))
set_option maxHeartbeats 8000000 in
set_option maxRecDepth 100000 in
theorem redpencillaw12_left.calls (k : Nat) (A0 : Option Addr) (c0 : Nat) (l0 : List (S35)) (a1 : Int) (a2_0 : Int) (a2_1 : Int) (a3 : Int) (r : Bool) (w : World) (hr0 : Kd.C k35 w A0 l0.length l0) (hc0 : l0.length ≤ c0) (h : redpencillaw12_left.f k l0 a1 a2_0 a2_1 a3 = some r) :
  Calls Tryz.prog 46 #[.slice A0 l0.length c0, .int .i64 a1, .agg #[.int .i64 a2_0, .int .i64 a2_1], .int .i64 a3] w fun e w' => e = .returned (.bool r) ∧ Below w.heap.size w w' := by
 have hu24 := Tryz.underlying24
 have HR0 := Aside0.mk hr0
 have HC0 := Aside0.mk hc0
 clear hr0 hc0
 have HB := Aside0.mk (Below.refl w.heap.size w)
 have H : ((index_Left.f k l0 a1).bind fun bt382 => (if (bt382.1 == a2_0 && (bt382.2.1 == a2_1)) = true then (some (bt382.2.2 == a3)) else (some false))) = some r := h
 clear h
 replace H := Option.bind_eq_some_iff.mp H
 obtain ⟨⟨t382, t383, t384⟩, A50, H⟩ := H
 replace H : (if (t382 == a2_0 && (t383 == a2_1)) = true then (some (t384 == a3)) else (some false)) = some r := H
 have A5 := Aside0.mk A50
 clear A50
 by_cases c6 : (t382 == a2_0 && (t383 == a2_1)) = true
 ·
  rw [if_pos c6] at H
  have c6b0 : (t382 == a2_0 && (t383 == a2_1)) = true := c6
  (try (have c6b1 : decide (t382 = a2_0 && (t383 == a2_1)) = true := by simpa using c6))
  (try (have c6b2 : (t382 == a2_0 && (t383 == a2_1)) = true := by simpa using c6))
  clear c6
  obtain rfl := Option.some.inj H
  go_enter Tryz.func46, Tryz.ntmps46
  go_wp2_with (first | ((with_reducible refine gate_dst (N := 6) rfl ?_); refine box_event ?hg (N := 6) ?hd (cs := #[.int .i64 a2_0, .int .i64 a2_1]) (t := 24) ?hr ?_; (case hd => rfl); (case hg => rfl); (case hr => first | (go_simp; done) | (go_simp; rfl)); intro gb381 hg w7 hbox hb; have n0_ := Aside0.mk (below_step (by repeat (first | (with_reducible first | exact HB.out | apply below_alloc | apply pw_below_drewN | apply below_drew1) | exact HB.out)) hb); have n1_ := Aside0.mk (hbox); have n2_ := Aside0.mk ((by rw [hg]; exact (below_size (by repeat (first | (with_reducible first | exact HB.out | apply below_alloc | apply pw_below_drewN | apply below_drew1) | exact HB.out))) : w.heap.size ≤ gb381)); have n3_ := Aside0.mk ((by rw [hg]; exact (below_size (by repeat (first | (with_reducible first | exact HB.out | apply below_alloc | apply pw_below_drewN | apply below_drew1) | exact HB.out))) : w.heap.size ≤ gb381)); clear HB; have HB := n0_; have BK381 := n1_; have GW381 := n2_; have GE381 := n3_; clear n0_ n1_ n2_ n3_; clear hb hbox hg) | ((with_reducible refine gate_callee (f := 86) rfl ?_); refine goesL_ (some 14) rfl rfl Tryz.func86 (by kernel_rfl) rfl #[.slice A0 l0.length c0, .int .i64 a1] rfl (by (try simp only [List.map_toArray, List.map_cons, List.map_nil]); first | done | rfl | (simp only [List.length_drop, List.length_take]; rfl)) ?_; (with_reducible refine (index_Left.calls k _ _ l0 a1 t382 t383 t384 _ ?side1 ?side2 A5.out).mono ?_); (case side1 => repeat (first | exact (Kd.C_below HR0.out HB.out) | (with_reducible refine Kd.C_alloc ?_ _) | (with_reducible refine Kd.C_drewN ?_ _) | (with_reducible refine Kd.C_drew ?_))); (case side2 => exact HC0.out); rintro e w8 ⟨rfl, hb⟩; refine ⟨_, rfl, ?_⟩; have n0_ := Aside0.mk (blk_below (g := gb381) (o := .cells #[.int .i64 a2_0, .int .i64 a2_1] 24 (0, 0)) (by (with_reducible repeat (first | refine blk_drewN ?_ _ | refine blk_drew ?_ | refine blk_alloc ?_ _)); exact BK381.out) hb); have n1_ := Aside0.mk (below_step (by repeat (first | (with_reducible first | exact HB.out | apply below_alloc | apply pw_below_drewN | apply below_drew1 | refine below_set ?_ GE381.out) | exact HB.out)) hb); clear BK381; clear HB; have BK381 := n0_; have HB := n1_; clear n0_ n1_; (try clear hb); (try clear hb2); (try clear hk); (try clear hi)) | ((with_reducible refine gate_dst (N := 9) rfl ?_); refine box_event ?hg (N := 9) ?hd (cs := #[.int .i64 0, .int .i64 0]) (t := 24) ?hr ?_; (case hd => rfl); (case hg => rfl); (case hr => first | (go_simp; done) | (go_simp; rfl)); intro gb385 hg w9 hbox hb; have n0_ := Aside0.mk (blk_below (g := gb381) (o := .cells #[.int .i64 a2_0, .int .i64 a2_1] 24 (0, 0)) (by (with_reducible repeat (first | refine blk_drewN ?_ _ | refine blk_drew ?_ | refine blk_alloc ?_ _)); exact BK381.out) hb); have n1_ := Aside0.mk (below_step (by repeat (first | (with_reducible first | exact HB.out | apply below_alloc | apply pw_below_drewN | apply below_drew1 | refine below_set ?_ GE381.out) | exact HB.out)) hb); have n2_ := Aside0.mk (hbox); have n3_ := Aside0.mk ((by rw [hg]; exact (below_size (by repeat (first | (with_reducible first | exact HB.out | apply below_alloc | apply pw_below_drewN | apply below_drew1 | refine below_set ?_ GE381.out) | exact HB.out))) : w.heap.size ≤ gb385)); have n4_ := Aside0.mk ((by rw [hg]; exact (below_size (by repeat (first | (with_reducible first | exact HB.out | apply below_alloc | apply pw_below_drewN | apply below_drew1 | refine below_set ?_ GE381.out) | exact HB.out))) : w.heap.size ≤ gb385)); have n5_ := Aside0.mk ((by rw [hg]; exact Nat.ne_of_lt (blk_lt (g := gb381) (o := .cells #[.int .i64 a2_0, .int .i64 a2_1] 24 (0, 0)) (by (with_reducible repeat (first | refine blk_drewN ?_ _ | refine blk_drew ?_ | refine blk_alloc ?_ _)); exact BK381.out)) : gb381 ≠ gb385)); have n6_ := Aside0.mk ((by rw [hg]; exact Nat.ne_of_gt (blk_lt (g := gb381) (o := .cells #[.int .i64 a2_0, .int .i64 a2_1] 24 (0, 0)) (by (with_reducible repeat (first | refine blk_drewN ?_ _ | refine blk_drew ?_ | refine blk_alloc ?_ _)); exact BK381.out)) : gb385 ≠ gb381)); clear BK381; clear HB; have BK381 := n0_; have HB := n1_; have BK385 := n2_; have GW385 := n3_; have GE385 := n4_; have NB381_385 := n5_; have NB385_381 := n6_; clear n0_ n1_ n2_ n3_ n4_ n5_ n6_; clear hb hbox hg; have hnb10 := NB385_381.out; have hnc10 := NB381_385.out; have hcz11_0 : w9.cell? ⟨gb385, 0, none⟩ = some (.int .i64 0) := (blk_cell BK385.out 0).trans rfl; have hcz11_1 : w9.cell? ⟨gb385, 1, none⟩ = some (.int .i64 0) := (blk_cell BK385.out 1).trans rfl; have hfz11_0 := blk_frozen BK385.out 0; have hfz11_1 := blk_frozen BK385.out 1; have hcz12_0 : w9.cell? ⟨gb381, 0, none⟩ = some (.int .i64 a2_0) := (blk_cell BK381.out 0).trans rfl; have hcz12_1 : w9.cell? ⟨gb381, 1, none⟩ = some (.int .i64 a2_1) := (blk_cell BK381.out 1).trans rfl; have hfz12_0 := blk_frozen BK381.out 0; have hfz12_1 := blk_frozen BK381.out 1))
  go_ret
  exact ⟨by first | rfl | (simp [errW_none, errW_some] <;> rfl) | (simp [*, errW_none, errW_some] <;> rfl), by repeat (first | (with_reducible first | exact HB.out | apply below_alloc | apply pw_below_drewN | apply below_drew1 | refine below_set ?_ GE381.out | refine below_set ?_ GE385.out) | exact HB.out)⟩
 ·
  rw [if_neg c6] at H
  have c6b0 : (t382 == a2_0 && (t383 == a2_1)) = false := by simpa using c6
  (try (have c6b1 : decide (t382 = a2_0 && (t383 == a2_1)) = false := by simpa using c6))
  (try (have c6b2 : (t382 == a2_0 && (t383 == a2_1)) = false := by simpa using c6))
  (try (have c6b3 : ¬ (t382 = a2_0 && (t383 == a2_1)) := by simpa using c6))
  clear c6
  obtain rfl := Option.some.inj H
  go_enter Tryz.func46, Tryz.ntmps46
  go_wp2_with (first | ((with_reducible refine gate_dst (N := 6) rfl ?_); refine box_event ?hg (N := 6) ?hd (cs := #[.int .i64 a2_0, .int .i64 a2_1]) (t := 24) ?hr ?_; (case hd => rfl); (case hg => rfl); (case hr => first | (go_simp; done) | (go_simp; rfl)); intro gb381 hg w13 hbox hb; have n0_ := Aside0.mk (below_step (by repeat (first | (with_reducible first | exact HB.out | apply below_alloc | apply pw_below_drewN | apply below_drew1) | exact HB.out)) hb); have n1_ := Aside0.mk (hbox); have n2_ := Aside0.mk ((by rw [hg]; exact (below_size (by repeat (first | (with_reducible first | exact HB.out | apply below_alloc | apply pw_below_drewN | apply below_drew1) | exact HB.out))) : w.heap.size ≤ gb381)); have n3_ := Aside0.mk ((by rw [hg]; exact (below_size (by repeat (first | (with_reducible first | exact HB.out | apply below_alloc | apply pw_below_drewN | apply below_drew1) | exact HB.out))) : w.heap.size ≤ gb381)); clear HB; have HB := n0_; have BK381 := n1_; have GW381 := n2_; have GE381 := n3_; clear n0_ n1_ n2_ n3_; clear hb hbox hg) | ((with_reducible refine gate_callee (f := 86) rfl ?_); refine goesL_ (some 14) rfl rfl Tryz.func86 (by kernel_rfl) rfl #[.slice A0 l0.length c0, .int .i64 a1] rfl (by (try simp only [List.map_toArray, List.map_cons, List.map_nil]); first | done | rfl | (simp only [List.length_drop, List.length_take]; rfl)) ?_; (with_reducible refine (index_Left.calls k _ _ l0 a1 t382 t383 t384 _ ?side1 ?side2 A5.out).mono ?_); (case side1 => repeat (first | exact (Kd.C_below HR0.out HB.out) | (with_reducible refine Kd.C_alloc ?_ _) | (with_reducible refine Kd.C_drewN ?_ _) | (with_reducible refine Kd.C_drew ?_))); (case side2 => exact HC0.out); rintro e w14 ⟨rfl, hb⟩; refine ⟨_, rfl, ?_⟩; have n0_ := Aside0.mk (blk_below (g := gb381) (o := .cells #[.int .i64 a2_0, .int .i64 a2_1] 24 (0, 0)) (by (with_reducible repeat (first | refine blk_drewN ?_ _ | refine blk_drew ?_ | refine blk_alloc ?_ _)); exact BK381.out) hb); have n1_ := Aside0.mk (below_step (by repeat (first | (with_reducible first | exact HB.out | apply below_alloc | apply pw_below_drewN | apply below_drew1 | refine below_set ?_ GE381.out) | exact HB.out)) hb); clear BK381; clear HB; have BK381 := n0_; have HB := n1_; clear n0_ n1_; (try clear hb); (try clear hb2); (try clear hk); (try clear hi)) | ((with_reducible refine gate_dst (N := 9) rfl ?_); refine box_event ?hg (N := 9) ?hd (cs := #[.int .i64 0, .int .i64 0]) (t := 24) ?hr ?_; (case hd => rfl); (case hg => rfl); (case hr => first | (go_simp; done) | (go_simp; rfl)); intro gb385 hg w15 hbox hb; have n0_ := Aside0.mk (blk_below (g := gb381) (o := .cells #[.int .i64 a2_0, .int .i64 a2_1] 24 (0, 0)) (by (with_reducible repeat (first | refine blk_drewN ?_ _ | refine blk_drew ?_ | refine blk_alloc ?_ _)); exact BK381.out) hb); have n1_ := Aside0.mk (below_step (by repeat (first | (with_reducible first | exact HB.out | apply below_alloc | apply pw_below_drewN | apply below_drew1 | refine below_set ?_ GE381.out) | exact HB.out)) hb); have n2_ := Aside0.mk (hbox); have n3_ := Aside0.mk ((by rw [hg]; exact (below_size (by repeat (first | (with_reducible first | exact HB.out | apply below_alloc | apply pw_below_drewN | apply below_drew1 | refine below_set ?_ GE381.out) | exact HB.out))) : w.heap.size ≤ gb385)); have n4_ := Aside0.mk ((by rw [hg]; exact (below_size (by repeat (first | (with_reducible first | exact HB.out | apply below_alloc | apply pw_below_drewN | apply below_drew1 | refine below_set ?_ GE381.out) | exact HB.out))) : w.heap.size ≤ gb385)); have n5_ := Aside0.mk ((by rw [hg]; exact Nat.ne_of_lt (blk_lt (g := gb381) (o := .cells #[.int .i64 a2_0, .int .i64 a2_1] 24 (0, 0)) (by (with_reducible repeat (first | refine blk_drewN ?_ _ | refine blk_drew ?_ | refine blk_alloc ?_ _)); exact BK381.out)) : gb381 ≠ gb385)); have n6_ := Aside0.mk ((by rw [hg]; exact Nat.ne_of_gt (blk_lt (g := gb381) (o := .cells #[.int .i64 a2_0, .int .i64 a2_1] 24 (0, 0)) (by (with_reducible repeat (first | refine blk_drewN ?_ _ | refine blk_drew ?_ | refine blk_alloc ?_ _)); exact BK381.out)) : gb385 ≠ gb381)); clear BK381; clear HB; have BK381 := n0_; have HB := n1_; have BK385 := n2_; have GW385 := n3_; have GE385 := n4_; have NB381_385 := n5_; have NB385_381 := n6_; clear n0_ n1_ n2_ n3_ n4_ n5_ n6_; clear hb hbox hg; have hnb16 := NB385_381.out; have hnc16 := NB381_385.out; have hcz17_0 : w15.cell? ⟨gb385, 0, none⟩ = some (.int .i64 0) := (blk_cell BK385.out 0).trans rfl; have hcz17_1 : w15.cell? ⟨gb385, 1, none⟩ = some (.int .i64 0) := (blk_cell BK385.out 1).trans rfl; have hfz17_0 := blk_frozen BK385.out 0; have hfz17_1 := blk_frozen BK385.out 1; have hcz18_0 : w15.cell? ⟨gb381, 0, none⟩ = some (.int .i64 a2_0) := (blk_cell BK381.out 0).trans rfl; have hcz18_1 : w15.cell? ⟨gb381, 1, none⟩ = some (.int .i64 a2_1) := (blk_cell BK381.out 1).trans rfl; have hfz18_0 := blk_frozen BK381.out 0; have hfz18_1 := blk_frozen BK381.out 1))
  go_ret
  exact ⟨by first | rfl | (simp [errW_none, errW_some] <;> rfl) | (simp [*, errW_none, errW_some] <;> rfl), by repeat (first | (with_reducible first | exact HB.out | apply below_alloc | apply pw_below_drewN | apply below_drew1 | refine below_set ?_ GE381.out | refine below_set ?_ GE385.out) | exact HB.out)⟩
def redpencillaw12_dots.f (k : Nat) (l0 : List (S35)) (a1 : Int) (a2 : Int) (l3 : List (S24)) (a4 : Int) : Option (Bool) := (index_Dots.f l0 a1 a2).bind fun bt386 => ((redpencilref04_Same.f k bt386.1 l3).bind fun t390 => (if t390 = true then (some (bt386.2 == a4)) else (some false)))
set_option maxHeartbeats 8000000 in
set_option maxRecDepth 100000 in
theorem redpencillaw12_dots.calls (k : Nat) (A0 : Option Addr) (c0 : Nat) (l0 : List (S35)) (a1 : Int) (a2 : Int) (A3 : Option Addr) (c3 : Nat) (l3 : List (S24)) (a4 : Int) (r : Bool) (w : World) (hr0 : Kd.C k35 w A0 l0.length l0) (hc0 : l0.length ≤ c0) (hr3 : Kd.C k24 w A3 l3.length l3) (hc3 : l3.length ≤ c3) (h : redpencillaw12_dots.f k l0 a1 a2 l3 a4 = some r) :
  Calls Tryz.prog 47 #[.slice A0 l0.length c0, .int .i64 a1, .int .i64 a2, .slice A3 l3.length c3, .int .i64 a4] w fun e w' => e = .returned (.bool r) ∧ Below w.heap.size w w' := by
 have HR0 := Aside0.mk hr0
 have HC0 := Aside0.mk hc0
 clear hr0 hc0
 have HR3 := Aside0.mk hr3
 have HC3 := Aside0.mk hc3
 clear hr3 hc3
 have HB := Aside0.mk (Below.refl w.heap.size w)
 have H : ((index_Dots.f l0 a1 a2).bind fun bt386 => ((redpencilref04_Same.f k bt386.1 l3).bind fun t390 => (if t390 = true then (some (bt386.2 == a4)) else (some false)))) = some r := h
 clear h
 replace H := Option.bind_eq_some_iff.mp H
 obtain ⟨⟨t386, t387⟩, A60, H⟩ := H
 replace H : ((redpencilref04_Same.f k t386 l3).bind fun t390 => (if t390 = true then (some (t387 == a4)) else (some false))) = some r := H
 have A6 := Aside0.mk A60
 clear A60
 replace H := Option.bind_eq_some_iff.mp H
 obtain ⟨t390, A70, H⟩ := H
 replace H : (if t390 = true then (some (t387 == a4)) else (some false)) = some r := H
 have A7 := Aside0.mk A70
 clear A70
 by_cases c8 : t390 = true
 ·
  subst c8
  have H1 : (some (t387 == a4)) = some r := by rw [if_pos rfl] at H; exact H
  clear H
  have H := H1
  clear H1
  obtain rfl := Option.some.inj H
  go_enter Tryz.func47, Tryz.ntmps47
  go_wp2_with (first | ((with_reducible refine gate_callee (f := 87) rfl ?_); refine goesL_ (some 17) rfl rfl Tryz.func87 (by kernel_rfl) rfl #[.slice A0 l0.length c0, .int .i64 a1, .int .i64 a2] rfl (by (try simp only [List.map_toArray, List.map_cons, List.map_nil]); first | done | rfl | (simp only [List.length_drop, List.length_take]; rfl)) ?_; (with_reducible refine (index_Dots.calls _ _ l0 a1 a2 t386 t387 _ ?side1 ?side2 A6.out).mono ?_); (case side1 => repeat (first | exact HR0.out | (with_reducible refine Kd.C_alloc ?_ _) | (with_reducible refine Kd.C_drewN ?_ _) | (with_reducible refine Kd.C_drew ?_))); (case side2 => exact HC0.out); rintro e w9 ⟨v388, rfl, ho0, hb⟩; refine ⟨_, rfl, ?_⟩; have n0_ := Aside0.mk (Kd.R_lower ho0 (below_size (by repeat (first | (with_reducible first | exact HB.out | apply below_alloc | apply pw_below_drewN | apply below_drew1) | exact HB.out)))); have n1_ := Aside0.mk (below_step (by repeat (first | (with_reducible first | exact HB.out | apply below_alloc | apply pw_below_drewN | apply below_drew1) | exact HB.out)) hb); clear HB; have HO389 := n0_; have HB := n1_; clear n0_ n1_; (try clear hb); (try clear hb2); (try clear hk); (try clear hi); (try clear ho0); obtain ⟨Ao10, co10, eo10⟩ := Kd.R_slice HO389.out; subst eo10) | ((with_reducible refine gate_callee (f := 52) rfl ?_); refine goesL_ (some 22) rfl rfl Tryz.func52 (by kernel_rfl) rfl #[.slice Ao10 t386.length co10, .slice A3 l3.length c3] rfl (by (try simp only [List.map_toArray, List.map_cons, List.map_nil]); first | done | rfl | (simp only [List.length_drop, List.length_take]; rfl)) ?_; (with_reducible refine (redpencilref04_Same.calls k _ _ t386 _ _ l3 true _ ?side1 ?side2 ?side3 ?side4 A7.out).mono ?_); (case side1 => repeat (first | exact (Kd.R_reads' HO389.out).2.2 | (with_reducible refine Kd.C_alloc ?_ _) | (with_reducible refine Kd.C_drewN ?_ _) | (with_reducible refine Kd.C_drew ?_))); (case side2 => exact (Kd.R_reads' HO389.out).2.1); (case side3 => repeat (first | exact (Kd.C_below HR3.out HB.out) | (with_reducible refine Kd.C_alloc ?_ _) | (with_reducible refine Kd.C_drewN ?_ _) | (with_reducible refine Kd.C_drew ?_))); (case side4 => exact HC3.out); rintro e w' ⟨rfl, ⟨nd, rfl⟩⟩; refine ⟨_, rfl, ?_⟩))
  go_ret
  exact ⟨by first | rfl | (simp [errW_none, errW_some] <;> rfl) | (simp [*, errW_none, errW_some] <;> rfl), by repeat (first | (with_reducible first | exact HB.out | apply below_alloc | apply pw_below_drewN | apply below_drew1) | exact HB.out)⟩
 ·
  replace c8 := Bool.eq_false_iff.mpr c8
  subst c8
  have H1 : (some false) = some r := by rw [if_neg (show ¬ (false = true) by decide)] at H; exact H
  clear H
  have H := H1
  clear H1
  obtain rfl := Option.some.inj H
  go_enter Tryz.func47, Tryz.ntmps47
  go_wp2_with (first | ((with_reducible refine gate_callee (f := 87) rfl ?_); refine goesL_ (some 17) rfl rfl Tryz.func87 (by kernel_rfl) rfl #[.slice A0 l0.length c0, .int .i64 a1, .int .i64 a2] rfl (by (try simp only [List.map_toArray, List.map_cons, List.map_nil]); first | done | rfl | (simp only [List.length_drop, List.length_take]; rfl)) ?_; (with_reducible refine (index_Dots.calls _ _ l0 a1 a2 t386 t387 _ ?side1 ?side2 A6.out).mono ?_); (case side1 => repeat (first | exact HR0.out | (with_reducible refine Kd.C_alloc ?_ _) | (with_reducible refine Kd.C_drewN ?_ _) | (with_reducible refine Kd.C_drew ?_))); (case side2 => exact HC0.out); rintro e w11 ⟨v388, rfl, ho0, hb⟩; refine ⟨_, rfl, ?_⟩; have n0_ := Aside0.mk (Kd.R_lower ho0 (below_size (by repeat (first | (with_reducible first | exact HB.out | apply below_alloc | apply pw_below_drewN | apply below_drew1) | exact HB.out)))); have n1_ := Aside0.mk (below_step (by repeat (first | (with_reducible first | exact HB.out | apply below_alloc | apply pw_below_drewN | apply below_drew1) | exact HB.out)) hb); clear HB; have HO389 := n0_; have HB := n1_; clear n0_ n1_; (try clear hb); (try clear hb2); (try clear hk); (try clear hi); (try clear ho0); obtain ⟨Ao12, co12, eo12⟩ := Kd.R_slice HO389.out; subst eo12) | ((with_reducible refine gate_callee (f := 52) rfl ?_); refine goesL_ (some 22) rfl rfl Tryz.func52 (by kernel_rfl) rfl #[.slice Ao12 t386.length co12, .slice A3 l3.length c3] rfl (by (try simp only [List.map_toArray, List.map_cons, List.map_nil]); first | done | rfl | (simp only [List.length_drop, List.length_take]; rfl)) ?_; (with_reducible refine (redpencilref04_Same.calls k _ _ t386 _ _ l3 false _ ?side1 ?side2 ?side3 ?side4 A7.out).mono ?_); (case side1 => repeat (first | exact (Kd.R_reads' HO389.out).2.2 | (with_reducible refine Kd.C_alloc ?_ _) | (with_reducible refine Kd.C_drewN ?_ _) | (with_reducible refine Kd.C_drew ?_))); (case side2 => exact (Kd.R_reads' HO389.out).2.1); (case side3 => repeat (first | exact (Kd.C_below HR3.out HB.out) | (with_reducible refine Kd.C_alloc ?_ _) | (with_reducible refine Kd.C_drewN ?_ _) | (with_reducible refine Kd.C_drew ?_))); (case side4 => exact HC3.out); rintro e w' ⟨rfl, ⟨nd, rfl⟩⟩; refine ⟨_, rfl, ?_⟩))
  go_ret
  exact ⟨by first | rfl | (simp [errW_none, errW_some] <;> rfl) | (simp [*, errW_none, errW_some] <;> rfl), by repeat (first | (with_reducible first | exact HB.out | apply below_alloc | apply pw_below_drewN | apply below_drew1) | exact HB.out)⟩
def redpencillaw12_at.f (a0 : Int) (a1 : Int) : Option (Int × Int) := some (a0, a1)
set_option maxHeartbeats 8000000 in
set_option maxRecDepth 100000 in
theorem redpencillaw12_at.calls (a0 : Int) (a1 : Int) (r1 : Int) (r2 : Int) (w : World) (h : redpencillaw12_at.f a0 a1 = some (r1, r2)) :
  Calls Tryz.prog 77 #[.int .i64 a0, .int .i64 a1] w fun e w' => e = .returned (.agg #[.int .i64 r1, .int .i64 r2]) ∧ Below w.heap.size w w' := by
 have hu24 := Tryz.underlying24
 have HB := Aside0.mk (Below.refl w.heap.size w)
 have H : (some (a0, a1)) = some (r1, r2) := h
 clear h
 simp only [Option.some.injEq, Prod.mk.injEq] at H
 obtain ⟨rfl, rfl⟩ := H
 go_enter Tryz.func77, Tryz.ntmps77
 go_wp2_with (first | ((with_reducible refine gate_dst (N := 4) rfl ?_); refine box_event ?hg (N := 4) ?hd (cs := #[.int .i64 0, .int .i64 0]) (t := 24) ?hr ?_; (case hd => rfl); (case hg => rfl); (case hr => first | (go_simp; done) | (go_simp; rfl)); intro gb391 hg w3 hbox hb; have n0_ := Aside0.mk (below_step (by repeat (first | (with_reducible first | exact HB.out | apply below_alloc | apply pw_below_drewN | apply below_drew1) | exact HB.out)) hb); have n1_ := Aside0.mk (hbox); have n2_ := Aside0.mk ((by rw [hg]; exact (below_size (by repeat (first | (with_reducible first | exact HB.out | apply below_alloc | apply pw_below_drewN | apply below_drew1) | exact HB.out))) : w.heap.size ≤ gb391)); have n3_ := Aside0.mk ((by rw [hg]; exact (below_size (by repeat (first | (with_reducible first | exact HB.out | apply below_alloc | apply pw_below_drewN | apply below_drew1) | exact HB.out))) : w.heap.size ≤ gb391)); clear HB; have HB := n0_; have BK391 := n1_; have GW391 := n2_; have GE391 := n3_; clear n0_ n1_ n2_ n3_; clear hb hbox hg; have hcz4_0 : w3.cell? ⟨gb391, 0, none⟩ = some (.int .i64 0) := (blk_cell BK391.out 0).trans rfl; have hcz4_1 : w3.cell? ⟨gb391, 1, none⟩ = some (.int .i64 0) := (blk_cell BK391.out 1).trans rfl; have hfz4_0 := blk_frozen BK391.out 0; have hfz4_1 := blk_frozen BK391.out 1))
 refine bodyPost_ret (results_cell_row rfl _ _ gb391 24 #[.int .i64 a0, .int .i64 a1] (0, 0) _ rfl (by (with_reducible repeat (first | refine blk_drewN ?_ _ | refine blk_drew ?_ | refine blk_alloc ?_ _)); refine blk_put (cs := #[.int .i64 a0, .int .i64 0]) ?_ 1 _ rfl; (with_reducible repeat (first | refine blk_drewN ?_ _ | refine blk_drew ?_ | refine blk_alloc ?_ _)); refine blk_put (cs := #[.int .i64 0, .int .i64 0]) ?_ 0 _ rfl; (with_reducible repeat (first | refine blk_drewN ?_ _ | refine blk_drew ?_ | refine blk_alloc ?_ _)); exact BK391.out) Tryz.underlying24 rfl (by kernel_rfl)) rfl ?_
 exact ⟨by first | rfl | (simp [errW_none, errW_some] <;> rfl) | (simp [*, errW_none, errW_some] <;> rfl), by repeat (first | (with_reducible first | exact HB.out | apply below_alloc | apply pw_below_drewN | apply below_drew1 | refine below_set ?_ GE391.out) | exact HB.out)⟩
end Go.Proofs.YtjlpaagnajmogaaGreat.PWalk
end
section
namespace Go.Proofs.YtjlpaagnajmogaaGreat.PWalk
open Go.RowKit Go.Proofs.YtjlpaagnajmogaaGreatW.PrintWords Go.Proofs.YtjlpaagnajmogaaGreatW.PrintLast Go.Proofs.YtjlpaagnajmogaaGreatW.PrintMore
set_option linter.unusedVariables false
set_option linter.unusedSimpArgs false
def redpencillaw12_given.f  : Option ((List (S35))) := (redpencillaw12_at.f 1 1).bind fun bt393 => ((redpencillaw12_at.f 1 2).bind fun bt395 => ((redpencillaw12_at.f 1 1).bind fun bt397 => ((redpencillaw12_at.f 2 2).bind fun bt399 => ((redpencillaw12_at.f 1 1).bind fun bt401 => ((redpencillaw12_at.f 2 3).bind fun bt403 => ((redpencillaw12_at.f 1 2).bind fun bt405 => ((redpencillaw12_at.f 1 4).bind fun bt407 => ((redpencillaw12_at.f 3 4).bind fun bt409 => ((redpencillaw12_at.f 9 9).bind fun bt411 => ((redpencillaw12_at.f 3 5).bind fun bt413 => ((redpencillaw12_at.f 3 6).bind fun bt415 => ((redpencillaw12_at.f 3 6).bind fun bt417 => ((redpencillaw12_at.f 3 5).bind fun bt419 => (some (([(⟨(⟨bt393.1, bt393.2⟩ : S24), (⟨0, 0⟩ : S24), 1, 97⟩ : S35), (⟨(⟨bt395.1, bt395.2⟩ : S24), (⟨bt397.1, bt397.2⟩ : S24), 2, 98⟩ : S35), (⟨(⟨bt399.1, bt399.2⟩ : S24), (⟨bt401.1, bt401.2⟩ : S24), 2, 0⟩ : S35), (⟨(⟨bt403.1, bt403.2⟩ : S24), (⟨bt405.1, bt405.2⟩ : S24), 3, 100⟩ : S35), (⟨(⟨bt407.1, bt407.2⟩ : S24), (⟨0, 0⟩ : S24), 4, 101⟩ : S35), (⟨(⟨bt409.1, bt409.2⟩ : S24), (⟨bt411.1, bt411.2⟩ : S24), 1, 102⟩ : S35), (⟨(⟨bt413.1, bt413.2⟩ : S24), (⟨bt415.1, bt415.2⟩ : S24), 1, 103⟩ : S35), (⟨(⟨bt417.1, bt417.2⟩ : S24), (⟨bt419.1, bt419.2⟩ : S24), 1, 104⟩ : S35)] : List (S35)))))))))))))))))
def redpencillaw12_given.T2 : Bool × List (List Nat × List Nat) := (true, [([], []), ([], []), ([0, 1], [0, 1]), ([0], []), ([3], []), ([3, 4], [3, 4]), ([4], []), ([6], []), ([6, 7], [6, 7]), ([7], []), ([9], []), ([9, 10], [9, 10]), ([10], []), ([], []), ([12, 13], [12, 13]), ([12], []), ([15], []), ([15, 16], [15, 16]), ([16], []), ([18], []), ([18, 19], [18, 19]), ([19], []), ([21], []), ([21, 22], [21, 22]), ([2, 5, 8, 11, 14, 17, 20, 23], [2, 5, 8, 11, 14, 17, 20, 23]), ([24, 22, 0, 1, 2, 3, 4, 5, 6, 7, 8, 9, 10, 11, 12, 13, 14, 15, 16, 17, 18, 19, 20, 21, 22, 23, 24], [24])])
def redpencillaw12_given.B2 : List Nat := [0, 0, 3, 1, 9, 25, 25, 89, 217, 217, 729, 1753, 1753, 0, 14041, 5849, 38617, 104153, 104153, 366297, 890585, 890585, 2987737, 7182041, 16777215, 33554431]
theorem redpencillaw12_given.tab2 : rtab .any (opsOf Tryz.f76 2) = redpencillaw12_given.T2 := by kernel_rfl
theorem redpencillaw12_given.bits2 : waitsOk redpencillaw12_given.T2.2 redpencillaw12_given.B2 = true := by kernel_rfl
set_option maxHeartbeats 8000000 in
set_option maxRecDepth 100000 in
theorem redpencillaw12_given.calls  (r : List (S35)) (w : World) (h : redpencillaw12_given.f  = some r) :
  Calls Tryz.prog 76 #[] w fun e w' => ∃ v0_ : Value, e = .returned (v0_) ∧ Kd.R k35 35 w' w.heap.size (fun _ => True) v0_ r ∧ Below w.heap.size w w' := by
 have hu24 := Tryz.underlying24
 have hu35 := Tryz.underlying35
 have HB := Aside0.mk (Below.refl w.heap.size w)
 have H : ((redpencillaw12_at.f 1 1).bind fun bt393 => ((redpencillaw12_at.f 1 2).bind fun bt395 => ((redpencillaw12_at.f 1 1).bind fun bt397 => ((redpencillaw12_at.f 2 2).bind fun bt399 => ((redpencillaw12_at.f 1 1).bind fun bt401 => ((redpencillaw12_at.f 2 3).bind fun bt403 => ((redpencillaw12_at.f 1 2).bind fun bt405 => ((redpencillaw12_at.f 1 4).bind fun bt407 => ((redpencillaw12_at.f 3 4).bind fun bt409 => ((redpencillaw12_at.f 9 9).bind fun bt411 => ((redpencillaw12_at.f 3 5).bind fun bt413 => ((redpencillaw12_at.f 3 6).bind fun bt415 => ((redpencillaw12_at.f 3 6).bind fun bt417 => ((redpencillaw12_at.f 3 5).bind fun bt419 => (some (([(⟨(⟨bt393.1, bt393.2⟩ : S24), (⟨0, 0⟩ : S24), 1, 97⟩ : S35), (⟨(⟨bt395.1, bt395.2⟩ : S24), (⟨bt397.1, bt397.2⟩ : S24), 2, 98⟩ : S35), (⟨(⟨bt399.1, bt399.2⟩ : S24), (⟨bt401.1, bt401.2⟩ : S24), 2, 0⟩ : S35), (⟨(⟨bt403.1, bt403.2⟩ : S24), (⟨bt405.1, bt405.2⟩ : S24), 3, 100⟩ : S35), (⟨(⟨bt407.1, bt407.2⟩ : S24), (⟨0, 0⟩ : S24), 4, 101⟩ : S35), (⟨(⟨bt409.1, bt409.2⟩ : S24), (⟨bt411.1, bt411.2⟩ : S24), 1, 102⟩ : S35), (⟨(⟨bt413.1, bt413.2⟩ : S24), (⟨bt415.1, bt415.2⟩ : S24), 1, 103⟩ : S35), (⟨(⟨bt417.1, bt417.2⟩ : S24), (⟨bt419.1, bt419.2⟩ : S24), 1, 104⟩ : S35)] : List (S35)))))))))))))))))) = some r := h
 clear h
 replace H := Option.bind_eq_some_iff.mp H
 obtain ⟨⟨t393, t394⟩, A10, H⟩ := H
 replace H : ((redpencillaw12_at.f 1 2).bind fun bt395 => ((redpencillaw12_at.f 1 1).bind fun bt397 => ((redpencillaw12_at.f 2 2).bind fun bt399 => ((redpencillaw12_at.f 1 1).bind fun bt401 => ((redpencillaw12_at.f 2 3).bind fun bt403 => ((redpencillaw12_at.f 1 2).bind fun bt405 => ((redpencillaw12_at.f 1 4).bind fun bt407 => ((redpencillaw12_at.f 3 4).bind fun bt409 => ((redpencillaw12_at.f 9 9).bind fun bt411 => ((redpencillaw12_at.f 3 5).bind fun bt413 => ((redpencillaw12_at.f 3 6).bind fun bt415 => ((redpencillaw12_at.f 3 6).bind fun bt417 => ((redpencillaw12_at.f 3 5).bind fun bt419 => (some (([(⟨(⟨t393, t394⟩ : S24), (⟨0, 0⟩ : S24), 1, 97⟩ : S35), (⟨(⟨bt395.1, bt395.2⟩ : S24), (⟨bt397.1, bt397.2⟩ : S24), 2, 98⟩ : S35), (⟨(⟨bt399.1, bt399.2⟩ : S24), (⟨bt401.1, bt401.2⟩ : S24), 2, 0⟩ : S35), (⟨(⟨bt403.1, bt403.2⟩ : S24), (⟨bt405.1, bt405.2⟩ : S24), 3, 100⟩ : S35), (⟨(⟨bt407.1, bt407.2⟩ : S24), (⟨0, 0⟩ : S24), 4, 101⟩ : S35), (⟨(⟨bt409.1, bt409.2⟩ : S24), (⟨bt411.1, bt411.2⟩ : S24), 1, 102⟩ : S35), (⟨(⟨bt413.1, bt413.2⟩ : S24), (⟨bt415.1, bt415.2⟩ : S24), 1, 103⟩ : S35), (⟨(⟨bt417.1, bt417.2⟩ : S24), (⟨bt419.1, bt419.2⟩ : S24), 1, 104⟩ : S35)] : List (S35))))))))))))))))) = some r := H
 have A1 := Aside0.mk A10
 clear A10
 replace H := Option.bind_eq_some_iff.mp H
 obtain ⟨⟨t395, t396⟩, A20, H⟩ := H
 replace H : ((redpencillaw12_at.f 1 1).bind fun bt397 => ((redpencillaw12_at.f 2 2).bind fun bt399 => ((redpencillaw12_at.f 1 1).bind fun bt401 => ((redpencillaw12_at.f 2 3).bind fun bt403 => ((redpencillaw12_at.f 1 2).bind fun bt405 => ((redpencillaw12_at.f 1 4).bind fun bt407 => ((redpencillaw12_at.f 3 4).bind fun bt409 => ((redpencillaw12_at.f 9 9).bind fun bt411 => ((redpencillaw12_at.f 3 5).bind fun bt413 => ((redpencillaw12_at.f 3 6).bind fun bt415 => ((redpencillaw12_at.f 3 6).bind fun bt417 => ((redpencillaw12_at.f 3 5).bind fun bt419 => (some (([(⟨(⟨t393, t394⟩ : S24), (⟨0, 0⟩ : S24), 1, 97⟩ : S35), (⟨(⟨t395, t396⟩ : S24), (⟨bt397.1, bt397.2⟩ : S24), 2, 98⟩ : S35), (⟨(⟨bt399.1, bt399.2⟩ : S24), (⟨bt401.1, bt401.2⟩ : S24), 2, 0⟩ : S35), (⟨(⟨bt403.1, bt403.2⟩ : S24), (⟨bt405.1, bt405.2⟩ : S24), 3, 100⟩ : S35), (⟨(⟨bt407.1, bt407.2⟩ : S24), (⟨0, 0⟩ : S24), 4, 101⟩ : S35), (⟨(⟨bt409.1, bt409.2⟩ : S24), (⟨bt411.1, bt411.2⟩ : S24), 1, 102⟩ : S35), (⟨(⟨bt413.1, bt413.2⟩ : S24), (⟨bt415.1, bt415.2⟩ : S24), 1, 103⟩ : S35), (⟨(⟨bt417.1, bt417.2⟩ : S24), (⟨bt419.1, bt419.2⟩ : S24), 1, 104⟩ : S35)] : List (S35)))))))))))))))) = some r := H
 have A2 := Aside0.mk A20
 clear A20
 replace H := Option.bind_eq_some_iff.mp H
 obtain ⟨⟨t397, t398⟩, A30, H⟩ := H
 replace H : ((redpencillaw12_at.f 2 2).bind fun bt399 => ((redpencillaw12_at.f 1 1).bind fun bt401 => ((redpencillaw12_at.f 2 3).bind fun bt403 => ((redpencillaw12_at.f 1 2).bind fun bt405 => ((redpencillaw12_at.f 1 4).bind fun bt407 => ((redpencillaw12_at.f 3 4).bind fun bt409 => ((redpencillaw12_at.f 9 9).bind fun bt411 => ((redpencillaw12_at.f 3 5).bind fun bt413 => ((redpencillaw12_at.f 3 6).bind fun bt415 => ((redpencillaw12_at.f 3 6).bind fun bt417 => ((redpencillaw12_at.f 3 5).bind fun bt419 => (some (([(⟨(⟨t393, t394⟩ : S24), (⟨0, 0⟩ : S24), 1, 97⟩ : S35), (⟨(⟨t395, t396⟩ : S24), (⟨t397, t398⟩ : S24), 2, 98⟩ : S35), (⟨(⟨bt399.1, bt399.2⟩ : S24), (⟨bt401.1, bt401.2⟩ : S24), 2, 0⟩ : S35), (⟨(⟨bt403.1, bt403.2⟩ : S24), (⟨bt405.1, bt405.2⟩ : S24), 3, 100⟩ : S35), (⟨(⟨bt407.1, bt407.2⟩ : S24), (⟨0, 0⟩ : S24), 4, 101⟩ : S35), (⟨(⟨bt409.1, bt409.2⟩ : S24), (⟨bt411.1, bt411.2⟩ : S24), 1, 102⟩ : S35), (⟨(⟨bt413.1, bt413.2⟩ : S24), (⟨bt415.1, bt415.2⟩ : S24), 1, 103⟩ : S35), (⟨(⟨bt417.1, bt417.2⟩ : S24), (⟨bt419.1, bt419.2⟩ : S24), 1, 104⟩ : S35)] : List (S35))))))))))))))) = some r := H
 have A3 := Aside0.mk A30
 clear A30
 replace H := Option.bind_eq_some_iff.mp H
 obtain ⟨⟨t399, t400⟩, A40, H⟩ := H
 replace H : ((redpencillaw12_at.f 1 1).bind fun bt401 => ((redpencillaw12_at.f 2 3).bind fun bt403 => ((redpencillaw12_at.f 1 2).bind fun bt405 => ((redpencillaw12_at.f 1 4).bind fun bt407 => ((redpencillaw12_at.f 3 4).bind fun bt409 => ((redpencillaw12_at.f 9 9).bind fun bt411 => ((redpencillaw12_at.f 3 5).bind fun bt413 => ((redpencillaw12_at.f 3 6).bind fun bt415 => ((redpencillaw12_at.f 3 6).bind fun bt417 => ((redpencillaw12_at.f 3 5).bind fun bt419 => (some (([(⟨(⟨t393, t394⟩ : S24), (⟨0, 0⟩ : S24), 1, 97⟩ : S35), (⟨(⟨t395, t396⟩ : S24), (⟨t397, t398⟩ : S24), 2, 98⟩ : S35), (⟨(⟨t399, t400⟩ : S24), (⟨bt401.1, bt401.2⟩ : S24), 2, 0⟩ : S35), (⟨(⟨bt403.1, bt403.2⟩ : S24), (⟨bt405.1, bt405.2⟩ : S24), 3, 100⟩ : S35), (⟨(⟨bt407.1, bt407.2⟩ : S24), (⟨0, 0⟩ : S24), 4, 101⟩ : S35), (⟨(⟨bt409.1, bt409.2⟩ : S24), (⟨bt411.1, bt411.2⟩ : S24), 1, 102⟩ : S35), (⟨(⟨bt413.1, bt413.2⟩ : S24), (⟨bt415.1, bt415.2⟩ : S24), 1, 103⟩ : S35), (⟨(⟨bt417.1, bt417.2⟩ : S24), (⟨bt419.1, bt419.2⟩ : S24), 1, 104⟩ : S35)] : List (S35)))))))))))))) = some r := H
 have A4 := Aside0.mk A40
 clear A40
 replace H := Option.bind_eq_some_iff.mp H
 obtain ⟨⟨t401, t402⟩, A50, H⟩ := H
 replace H : ((redpencillaw12_at.f 2 3).bind fun bt403 => ((redpencillaw12_at.f 1 2).bind fun bt405 => ((redpencillaw12_at.f 1 4).bind fun bt407 => ((redpencillaw12_at.f 3 4).bind fun bt409 => ((redpencillaw12_at.f 9 9).bind fun bt411 => ((redpencillaw12_at.f 3 5).bind fun bt413 => ((redpencillaw12_at.f 3 6).bind fun bt415 => ((redpencillaw12_at.f 3 6).bind fun bt417 => ((redpencillaw12_at.f 3 5).bind fun bt419 => (some (([(⟨(⟨t393, t394⟩ : S24), (⟨0, 0⟩ : S24), 1, 97⟩ : S35), (⟨(⟨t395, t396⟩ : S24), (⟨t397, t398⟩ : S24), 2, 98⟩ : S35), (⟨(⟨t399, t400⟩ : S24), (⟨t401, t402⟩ : S24), 2, 0⟩ : S35), (⟨(⟨bt403.1, bt403.2⟩ : S24), (⟨bt405.1, bt405.2⟩ : S24), 3, 100⟩ : S35), (⟨(⟨bt407.1, bt407.2⟩ : S24), (⟨0, 0⟩ : S24), 4, 101⟩ : S35), (⟨(⟨bt409.1, bt409.2⟩ : S24), (⟨bt411.1, bt411.2⟩ : S24), 1, 102⟩ : S35), (⟨(⟨bt413.1, bt413.2⟩ : S24), (⟨bt415.1, bt415.2⟩ : S24), 1, 103⟩ : S35), (⟨(⟨bt417.1, bt417.2⟩ : S24), (⟨bt419.1, bt419.2⟩ : S24), 1, 104⟩ : S35)] : List (S35))))))))))))) = some r := H
 have A5 := Aside0.mk A50
 clear A50
 replace H := Option.bind_eq_some_iff.mp H
 obtain ⟨⟨t403, t404⟩, A60, H⟩ := H
 replace H : ((redpencillaw12_at.f 1 2).bind fun bt405 => ((redpencillaw12_at.f 1 4).bind fun bt407 => ((redpencillaw12_at.f 3 4).bind fun bt409 => ((redpencillaw12_at.f 9 9).bind fun bt411 => ((redpencillaw12_at.f 3 5).bind fun bt413 => ((redpencillaw12_at.f 3 6).bind fun bt415 => ((redpencillaw12_at.f 3 6).bind fun bt417 => ((redpencillaw12_at.f 3 5).bind fun bt419 => (some (([(⟨(⟨t393, t394⟩ : S24), (⟨0, 0⟩ : S24), 1, 97⟩ : S35), (⟨(⟨t395, t396⟩ : S24), (⟨t397, t398⟩ : S24), 2, 98⟩ : S35), (⟨(⟨t399, t400⟩ : S24), (⟨t401, t402⟩ : S24), 2, 0⟩ : S35), (⟨(⟨t403, t404⟩ : S24), (⟨bt405.1, bt405.2⟩ : S24), 3, 100⟩ : S35), (⟨(⟨bt407.1, bt407.2⟩ : S24), (⟨0, 0⟩ : S24), 4, 101⟩ : S35), (⟨(⟨bt409.1, bt409.2⟩ : S24), (⟨bt411.1, bt411.2⟩ : S24), 1, 102⟩ : S35), (⟨(⟨bt413.1, bt413.2⟩ : S24), (⟨bt415.1, bt415.2⟩ : S24), 1, 103⟩ : S35), (⟨(⟨bt417.1, bt417.2⟩ : S24), (⟨bt419.1, bt419.2⟩ : S24), 1, 104⟩ : S35)] : List (S35)))))))))))) = some r := H
 have A6 := Aside0.mk A60
 clear A60
 replace H := Option.bind_eq_some_iff.mp H
 obtain ⟨⟨t405, t406⟩, A70, H⟩ := H
 replace H : ((redpencillaw12_at.f 1 4).bind fun bt407 => ((redpencillaw12_at.f 3 4).bind fun bt409 => ((redpencillaw12_at.f 9 9).bind fun bt411 => ((redpencillaw12_at.f 3 5).bind fun bt413 => ((redpencillaw12_at.f 3 6).bind fun bt415 => ((redpencillaw12_at.f 3 6).bind fun bt417 => ((redpencillaw12_at.f 3 5).bind fun bt419 => (some (([(⟨(⟨t393, t394⟩ : S24), (⟨0, 0⟩ : S24), 1, 97⟩ : S35), (⟨(⟨t395, t396⟩ : S24), (⟨t397, t398⟩ : S24), 2, 98⟩ : S35), (⟨(⟨t399, t400⟩ : S24), (⟨t401, t402⟩ : S24), 2, 0⟩ : S35), (⟨(⟨t403, t404⟩ : S24), (⟨t405, t406⟩ : S24), 3, 100⟩ : S35), (⟨(⟨bt407.1, bt407.2⟩ : S24), (⟨0, 0⟩ : S24), 4, 101⟩ : S35), (⟨(⟨bt409.1, bt409.2⟩ : S24), (⟨bt411.1, bt411.2⟩ : S24), 1, 102⟩ : S35), (⟨(⟨bt413.1, bt413.2⟩ : S24), (⟨bt415.1, bt415.2⟩ : S24), 1, 103⟩ : S35), (⟨(⟨bt417.1, bt417.2⟩ : S24), (⟨bt419.1, bt419.2⟩ : S24), 1, 104⟩ : S35)] : List (S35))))))))))) = some r := H
 have A7 := Aside0.mk A70
 clear A70
 replace H := Option.bind_eq_some_iff.mp H
 obtain ⟨⟨t407, t408⟩, A80, H⟩ := H
 replace H : ((redpencillaw12_at.f 3 4).bind fun bt409 => ((redpencillaw12_at.f 9 9).bind fun bt411 => ((redpencillaw12_at.f 3 5).bind fun bt413 => ((redpencillaw12_at.f 3 6).bind fun bt415 => ((redpencillaw12_at.f 3 6).bind fun bt417 => ((redpencillaw12_at.f 3 5).bind fun bt419 => (some (([(⟨(⟨t393, t394⟩ : S24), (⟨0, 0⟩ : S24), 1, 97⟩ : S35), (⟨(⟨t395, t396⟩ : S24), (⟨t397, t398⟩ : S24), 2, 98⟩ : S35), (⟨(⟨t399, t400⟩ : S24), (⟨t401, t402⟩ : S24), 2, 0⟩ : S35), (⟨(⟨t403, t404⟩ : S24), (⟨t405, t406⟩ : S24), 3, 100⟩ : S35), (⟨(⟨t407, t408⟩ : S24), (⟨0, 0⟩ : S24), 4, 101⟩ : S35), (⟨(⟨bt409.1, bt409.2⟩ : S24), (⟨bt411.1, bt411.2⟩ : S24), 1, 102⟩ : S35), (⟨(⟨bt413.1, bt413.2⟩ : S24), (⟨bt415.1, bt415.2⟩ : S24), 1, 103⟩ : S35), (⟨(⟨bt417.1, bt417.2⟩ : S24), (⟨bt419.1, bt419.2⟩ : S24), 1, 104⟩ : S35)] : List (S35)))))))))) = some r := H
 have A8 := Aside0.mk A80
 clear A80
 replace H := Option.bind_eq_some_iff.mp H
 obtain ⟨⟨t409, t410⟩, A90, H⟩ := H
 replace H : ((redpencillaw12_at.f 9 9).bind fun bt411 => ((redpencillaw12_at.f 3 5).bind fun bt413 => ((redpencillaw12_at.f 3 6).bind fun bt415 => ((redpencillaw12_at.f 3 6).bind fun bt417 => ((redpencillaw12_at.f 3 5).bind fun bt419 => (some (([(⟨(⟨t393, t394⟩ : S24), (⟨0, 0⟩ : S24), 1, 97⟩ : S35), (⟨(⟨t395, t396⟩ : S24), (⟨t397, t398⟩ : S24), 2, 98⟩ : S35), (⟨(⟨t399, t400⟩ : S24), (⟨t401, t402⟩ : S24), 2, 0⟩ : S35), (⟨(⟨t403, t404⟩ : S24), (⟨t405, t406⟩ : S24), 3, 100⟩ : S35), (⟨(⟨t407, t408⟩ : S24), (⟨0, 0⟩ : S24), 4, 101⟩ : S35), (⟨(⟨t409, t410⟩ : S24), (⟨bt411.1, bt411.2⟩ : S24), 1, 102⟩ : S35), (⟨(⟨bt413.1, bt413.2⟩ : S24), (⟨bt415.1, bt415.2⟩ : S24), 1, 103⟩ : S35), (⟨(⟨bt417.1, bt417.2⟩ : S24), (⟨bt419.1, bt419.2⟩ : S24), 1, 104⟩ : S35)] : List (S35))))))))) = some r := H
 have A9 := Aside0.mk A90
 clear A90
 replace H := Option.bind_eq_some_iff.mp H
 obtain ⟨⟨t411, t412⟩, A100, H⟩ := H
 replace H : ((redpencillaw12_at.f 3 5).bind fun bt413 => ((redpencillaw12_at.f 3 6).bind fun bt415 => ((redpencillaw12_at.f 3 6).bind fun bt417 => ((redpencillaw12_at.f 3 5).bind fun bt419 => (some (([(⟨(⟨t393, t394⟩ : S24), (⟨0, 0⟩ : S24), 1, 97⟩ : S35), (⟨(⟨t395, t396⟩ : S24), (⟨t397, t398⟩ : S24), 2, 98⟩ : S35), (⟨(⟨t399, t400⟩ : S24), (⟨t401, t402⟩ : S24), 2, 0⟩ : S35), (⟨(⟨t403, t404⟩ : S24), (⟨t405, t406⟩ : S24), 3, 100⟩ : S35), (⟨(⟨t407, t408⟩ : S24), (⟨0, 0⟩ : S24), 4, 101⟩ : S35), (⟨(⟨t409, t410⟩ : S24), (⟨t411, t412⟩ : S24), 1, 102⟩ : S35), (⟨(⟨bt413.1, bt413.2⟩ : S24), (⟨bt415.1, bt415.2⟩ : S24), 1, 103⟩ : S35), (⟨(⟨bt417.1, bt417.2⟩ : S24), (⟨bt419.1, bt419.2⟩ : S24), 1, 104⟩ : S35)] : List (S35)))))))) = some r := H
 have A10 := Aside0.mk A100
 clear A100
 replace H := Option.bind_eq_some_iff.mp H
 obtain ⟨⟨t413, t414⟩, A110, H⟩ := H
 replace H : ((redpencillaw12_at.f 3 6).bind fun bt415 => ((redpencillaw12_at.f 3 6).bind fun bt417 => ((redpencillaw12_at.f 3 5).bind fun bt419 => (some (([(⟨(⟨t393, t394⟩ : S24), (⟨0, 0⟩ : S24), 1, 97⟩ : S35), (⟨(⟨t395, t396⟩ : S24), (⟨t397, t398⟩ : S24), 2, 98⟩ : S35), (⟨(⟨t399, t400⟩ : S24), (⟨t401, t402⟩ : S24), 2, 0⟩ : S35), (⟨(⟨t403, t404⟩ : S24), (⟨t405, t406⟩ : S24), 3, 100⟩ : S35), (⟨(⟨t407, t408⟩ : S24), (⟨0, 0⟩ : S24), 4, 101⟩ : S35), (⟨(⟨t409, t410⟩ : S24), (⟨t411, t412⟩ : S24), 1, 102⟩ : S35), (⟨(⟨t413, t414⟩ : S24), (⟨bt415.1, bt415.2⟩ : S24), 1, 103⟩ : S35), (⟨(⟨bt417.1, bt417.2⟩ : S24), (⟨bt419.1, bt419.2⟩ : S24), 1, 104⟩ : S35)] : List (S35))))))) = some r := H
 have A11 := Aside0.mk A110
 clear A110
 replace H := Option.bind_eq_some_iff.mp H
 obtain ⟨⟨t415, t416⟩, A120, H⟩ := H
 replace H : ((redpencillaw12_at.f 3 6).bind fun bt417 => ((redpencillaw12_at.f 3 5).bind fun bt419 => (some (([(⟨(⟨t393, t394⟩ : S24), (⟨0, 0⟩ : S24), 1, 97⟩ : S35), (⟨(⟨t395, t396⟩ : S24), (⟨t397, t398⟩ : S24), 2, 98⟩ : S35), (⟨(⟨t399, t400⟩ : S24), (⟨t401, t402⟩ : S24), 2, 0⟩ : S35), (⟨(⟨t403, t404⟩ : S24), (⟨t405, t406⟩ : S24), 3, 100⟩ : S35), (⟨(⟨t407, t408⟩ : S24), (⟨0, 0⟩ : S24), 4, 101⟩ : S35), (⟨(⟨t409, t410⟩ : S24), (⟨t411, t412⟩ : S24), 1, 102⟩ : S35), (⟨(⟨t413, t414⟩ : S24), (⟨t415, t416⟩ : S24), 1, 103⟩ : S35), (⟨(⟨bt417.1, bt417.2⟩ : S24), (⟨bt419.1, bt419.2⟩ : S24), 1, 104⟩ : S35)] : List (S35)))))) = some r := H
 have A12 := Aside0.mk A120
 clear A120
 replace H := Option.bind_eq_some_iff.mp H
 obtain ⟨⟨t417, t418⟩, A130, H⟩ := H
 replace H : ((redpencillaw12_at.f 3 5).bind fun bt419 => (some (([(⟨(⟨t393, t394⟩ : S24), (⟨0, 0⟩ : S24), 1, 97⟩ : S35), (⟨(⟨t395, t396⟩ : S24), (⟨t397, t398⟩ : S24), 2, 98⟩ : S35), (⟨(⟨t399, t400⟩ : S24), (⟨t401, t402⟩ : S24), 2, 0⟩ : S35), (⟨(⟨t403, t404⟩ : S24), (⟨t405, t406⟩ : S24), 3, 100⟩ : S35), (⟨(⟨t407, t408⟩ : S24), (⟨0, 0⟩ : S24), 4, 101⟩ : S35), (⟨(⟨t409, t410⟩ : S24), (⟨t411, t412⟩ : S24), 1, 102⟩ : S35), (⟨(⟨t413, t414⟩ : S24), (⟨t415, t416⟩ : S24), 1, 103⟩ : S35), (⟨(⟨t417, t418⟩ : S24), (⟨bt419.1, bt419.2⟩ : S24), 1, 104⟩ : S35)] : List (S35))))) = some r := H
 have A13 := Aside0.mk A130
 clear A130
 replace H := Option.bind_eq_some_iff.mp H
 obtain ⟨⟨t419, t420⟩, A140, H⟩ := H
 replace H : (some (([(⟨(⟨t393, t394⟩ : S24), (⟨0, 0⟩ : S24), 1, 97⟩ : S35), (⟨(⟨t395, t396⟩ : S24), (⟨t397, t398⟩ : S24), 2, 98⟩ : S35), (⟨(⟨t399, t400⟩ : S24), (⟨t401, t402⟩ : S24), 2, 0⟩ : S35), (⟨(⟨t403, t404⟩ : S24), (⟨t405, t406⟩ : S24), 3, 100⟩ : S35), (⟨(⟨t407, t408⟩ : S24), (⟨0, 0⟩ : S24), 4, 101⟩ : S35), (⟨(⟨t409, t410⟩ : S24), (⟨t411, t412⟩ : S24), 1, 102⟩ : S35), (⟨(⟨t413, t414⟩ : S24), (⟨t415, t416⟩ : S24), 1, 103⟩ : S35), (⟨(⟨t417, t418⟩ : S24), (⟨t419, t420⟩ : S24), 1, 104⟩ : S35)] : List (S35)))) = some r := H
 have A14 := Aside0.mk A140
 clear A140
 obtain ⟨y421, hy421⟩ : ∃ y_ : List (S35), y_ = (([(⟨(⟨t393, t394⟩ : S24), (⟨0, 0⟩ : S24), 1, 97⟩ : S35), (⟨(⟨t395, t396⟩ : S24), (⟨t397, t398⟩ : S24), 2, 98⟩ : S35), (⟨(⟨t399, t400⟩ : S24), (⟨t401, t402⟩ : S24), 2, 0⟩ : S35), (⟨(⟨t403, t404⟩ : S24), (⟨t405, t406⟩ : S24), 3, 100⟩ : S35), (⟨(⟨t407, t408⟩ : S24), (⟨0, 0⟩ : S24), 4, 101⟩ : S35), (⟨(⟨t409, t410⟩ : S24), (⟨t411, t412⟩ : S24), 1, 102⟩ : S35), (⟨(⟨t413, t414⟩ : S24), (⟨t415, t416⟩ : S24), 1, 103⟩ : S35), (⟨(⟨t417, t418⟩ : S24), (⟨t419, t420⟩ : S24), 1, 104⟩ : S35)] : List (S35))) := ⟨_, rfl⟩
 replace H : (some y421) = some r := by first | (rw [hy421]; with_reducible exact H) | (have H2_ := (Option.bind_some _ _).symm.trans H; rw [hy421]; with_reducible exact H2_) | (have H2_ := (Option.bind_some _ _).symm.trans H; with_reducible exact H2_) | with_reducible exact H | (rw [hy421]; exact H) | exact H
 have Ny421 := Aside0.mk hy421
 clear hy421
 obtain rfl := Option.some.inj H
 go_enter Tryz.func76, Tryz.ntmps76
 try go_wp2_with (first | ((with_reducible refine gate_dst (N := 1) rfl ?_); refine box_event ?hg (N := 1) ?hd (cs := #[.int .i64 0, .int .i64 0]) (t := 24) ?hr ?_; (case hd => rfl); (case hg => rfl); (case hr => first | (go_simp; done) | (go_simp; rfl)); intro gb392 hg w15 hbox hb; have n0_ := Aside0.mk (below_step (by repeat (first | (with_reducible first | exact HB.out | apply below_alloc | apply pw_below_drewN | apply below_drew1) | exact HB.out)) hb); have n1_ := Aside0.mk (hbox); have n2_ := Aside0.mk ((by rw [hg]; exact (below_size (by repeat (first | (with_reducible first | exact HB.out | apply below_alloc | apply pw_below_drewN | apply below_drew1) | exact HB.out))) : w.heap.size ≤ gb392)); have n3_ := Aside0.mk ((by rw [hg]; exact (below_size (by repeat (first | (with_reducible first | exact HB.out | apply below_alloc | apply pw_below_drewN | apply below_drew1) | exact HB.out))) : w.heap.size ≤ gb392)); clear HB; have HB := n0_; have BK392 := n1_; have GW392 := n2_; have GE392 := n3_; clear n0_ n1_ n2_ n3_; clear hb hbox hg; have hcz16_0 : w15.cell? ⟨gb392, 0, none⟩ = some (.int .i64 0) := (blk_cell BK392.out 0).trans rfl; have hcz16_1 : w15.cell? ⟨gb392, 1, none⟩ = some (.int .i64 0) := (blk_cell BK392.out 1).trans rfl; have hfz16_0 := blk_frozen BK392.out 0; have hfz16_1 := blk_frozen BK392.out 1))
 have n0_ : Aside0 (((w15.setCell ⟨gb392, 0, none⟩ (.int .i64 0)).setCell ⟨gb392, 1, none⟩ (.int .i64 0)).heap[gb392]? = some (.cells #[.int .i64 0, .int .i64 0] 24 (0, 0))) := ⟨by (with_reducible repeat (first | refine blk_drewN ?_ _ | refine blk_drew ?_ | refine blk_alloc ?_ _)); refine blk_put (cs := #[.int .i64 0, .int .i64 0]) ?_ 1 _ rfl; (with_reducible repeat (first | refine blk_drewN ?_ _ | refine blk_drew ?_ | refine blk_alloc ?_ _)); refine blk_put (cs := #[.int .i64 0, .int .i64 0]) ?_ 0 _ rfl; (with_reducible repeat (first | refine blk_drewN ?_ _ | refine blk_drew ?_ | refine blk_alloc ?_ _)); exact BK392.out⟩
 have n1_ : Aside0 (Below w.heap.size w ((w15.setCell ⟨gb392, 0, none⟩ (.int .i64 0)).setCell ⟨gb392, 1, none⟩ (.int .i64 0))) := ⟨by repeat (first | (with_reducible first | exact HB.out | apply below_alloc | apply pw_below_drewN | apply below_drew1 | refine below_set ?_ GE392.out) | exact HB.out)⟩
 (try clear BK392)
 (try clear HB)
 generalize ((w15.setCell ⟨gb392, 0, none⟩ (.int .i64 0)).setCell ⟨gb392, 1, none⟩ (.int .i64 0)) = w17 at n0_ n1_ ⊢
 have BK392 := n0_
 have HB := n1_
 clear n0_ n1_
 have n0_ := Aside0.mk (blk_drew BK392.out)
 have n1_ := Aside0.mk (below_drew1 HB.out)
 clear BK392
 clear HB
 have BK392 := n0_
 have HB := n1_
 clear n0_ n1_
 refine start_ (n := 26) (S := fun w' => w'.cell? ⟨gb392, 0, none⟩ = some (.int .i64 0) ∧ w'.cell? ⟨gb392, 1, none⟩ = some (.int .i64 0)) (ds := []) #[false, false, false, false, false, false, false, false, false, false, false, false, false, false, false, false, false, false, false, false, false, false, false, false, false, false] (by kernel_rfl) rfl rfl ⟨(blk_cell BK392.out 0).trans rfl, (blk_cell BK392.out 1).trans rfl⟩ (fun hHeld => ?_); refine with_tabW redpencillaw12_given.tab2 redpencillaw12_given.bits2 (fun HT_ HW_ => ?_)
 generalize w17.drew = w18 at BK392 HB hHeld ⊢
 refine take_ (i := 1) (N := some 4) (v := ?_) (a' := ?_) #[false, true, false, false, false, false, false, false, false, false, false, false, false, false, false, false, false, false, false, false, false, false, false, false, false, false] rfl rfl (take_ofW HT_.out HW_.out (by kernel_rfl)) (fun _ _ _ h => h) (Or.inl ⟨by rfl, ?_⟩) hHeld ?_ ?_
 rotate_left
 ·
  rintro w' ⟨s0, s1⟩
  go_simp
  with_reducible rfl
 rotate_left
 ·
  simp only [Act.put, List.setIfInBounds_toArray, List.set_cons_zero, List.set_cons_succ, i64_w, i32_w]
  rfl
 refine take_ (i := 13) (N := some 16) (v := ?_) (a' := ?_) #[false, true, false, false, false, false, false, false, false, false, false, false, false, true, false, false, false, false, false, false, false, false, false, false, false, false] rfl rfl (take_ofW HT_.out HW_.out (by kernel_rfl)) (fun _ _ _ h => h) (Or.inl ⟨by rfl, ?_⟩) hHeld ?_ ?_
 rotate_left
 ·
  rintro w' ⟨s0, s1⟩
  go_simp
  with_reducible rfl
 rotate_left
 ·
  simp only [Act.put, List.setIfInBounds_toArray, List.set_cons_zero, List.set_cons_succ, i64_w, i32_w]
  rfl
 refine one_ (i := 0) (N := some 3) #[true, true, false, false, false, false, false, false, false, false, false, false, false, true, false, false, false, false, false, false, false, false, false, false, false, false] rfl rfl (one_of HT_.out (by kernel_rfl)) (by decide) (fun K hK => ?_)
 refine goes_ Tryz.func77 (by kernel_rfl) rfl #[.int .i64 1, .int .i64 1] (by rfl) rfl rfl (by (try simp only [List.map_toArray, List.map_cons, List.map_nil]); first | done | rfl | (simp only [List.length_drop, List.length_take]; rfl)) ?_
 with_reducible refine (redpencillaw12_at.calls 1 1 t393 t394 _ A1.out).mono ?_
 rintro e w19 ⟨rfl, hb⟩
 refine ⟨_, rfl, ?_⟩
 have n0_ := Aside0.mk (blk_below (g := gb392) (o := .cells #[.int .i64 0, .int .i64 0] 24 (0, 0)) (by (with_reducible repeat (first | refine blk_drewN ?_ _ | refine blk_drew ?_ | refine blk_alloc ?_ _)); exact BK392.out) hb)
 have n1_ := Aside0.mk (below_step (by repeat (first | (with_reducible first | exact HB.out | apply below_alloc | apply pw_below_drewN | apply below_drew1 | refine below_set ?_ GE392.out) | exact HB.out)) hb)
 clear BK392
 clear HB
 have BK392 := n0_
 have HB := n1_
 clear n0_ n1_
 (try clear hb)
 (try clear hb2)
 (try clear hk)
 (try clear hi)
 refine hK.out _ _ ⟨(blk_cell BK392.out 0).trans rfl, (blk_cell BK392.out 1).trans rfl⟩ (fun hHeld => ?_)
 clear hK K
 refine norm_ (a' := ?_) ?_ ?_
 rotate_left
 ·
  show Act.put _ (some 3) _ = _
  simp only [Act.put, List.setIfInBounds_toArray, List.set_cons_zero, List.set_cons_succ, i64_w, i32_w]
  rfl
 refine pure_ (i := 2) (N := some 5) (v := ?_) (a' := ?_) #[true, true, true, false, false, false, false, false, false, false, false, false, false, true, false, false, false, false, false, false, false, false, false, false, false, false] rfl rfl (any_of HT_.out (by kernel_rfl)) (fun _ _ _ h => h) (Or.inl ⟨by rfl, ?_⟩) ?_ ?_
 rotate_left
 ·
  intro w'
  go_simp
  with_reducible rfl
 rotate_left
 ·
  simp only [Act.put, List.setIfInBounds_toArray, List.set_cons_zero, List.set_cons_succ, i64_w, i32_w]
  rfl
 refine one_ (i := 3) (N := some 6) #[true, true, true, true, false, false, false, false, false, false, false, false, false, true, false, false, false, false, false, false, false, false, false, false, false, false] rfl rfl (one_of HT_.out (by kernel_rfl)) (by decide) (fun K hK => ?_)
 refine goes_ Tryz.func77 (by kernel_rfl) rfl #[.int .i64 1, .int .i64 2] (by rfl) rfl rfl (by (try simp only [List.map_toArray, List.map_cons, List.map_nil]); first | done | rfl | (simp only [List.length_drop, List.length_take]; rfl)) ?_
 with_reducible refine (redpencillaw12_at.calls 1 2 t395 t396 _ A2.out).mono ?_
 rintro e w20 ⟨rfl, hb⟩
 refine ⟨_, rfl, ?_⟩
 have n0_ := Aside0.mk (blk_below (g := gb392) (o := .cells #[.int .i64 0, .int .i64 0] 24 (0, 0)) (by (with_reducible repeat (first | refine blk_drewN ?_ _ | refine blk_drew ?_ | refine blk_alloc ?_ _)); exact BK392.out) hb)
 have n1_ := Aside0.mk (below_step (by repeat (first | (with_reducible first | exact HB.out | apply below_alloc | apply pw_below_drewN | apply below_drew1 | refine below_set ?_ GE392.out) | exact HB.out)) hb)
 clear BK392
 clear HB
 have BK392 := n0_
 have HB := n1_
 clear n0_ n1_
 (try clear hb)
 (try clear hb2)
 (try clear hk)
 (try clear hi)
 refine hK.out _ _ ⟨(blk_cell BK392.out 0).trans rfl, (blk_cell BK392.out 1).trans rfl⟩ (fun hHeld => ?_)
 clear hK K
 refine norm_ (a' := ?_) ?_ ?_
 rotate_left
 ·
  show Act.put _ (some 6) _ = _
  simp only [Act.put, List.setIfInBounds_toArray, List.set_cons_zero, List.set_cons_succ, i64_w, i32_w]
  rfl
 refine one_ (i := 4) (N := some 7) #[true, true, true, true, true, false, false, false, false, false, false, false, false, true, false, false, false, false, false, false, false, false, false, false, false, false] rfl rfl (one_of HT_.out (by kernel_rfl)) (by decide) (fun K hK => ?_)
 refine goes_ Tryz.func77 (by kernel_rfl) rfl #[.int .i64 1, .int .i64 1] (by rfl) rfl rfl (by (try simp only [List.map_toArray, List.map_cons, List.map_nil]); first | done | rfl | (simp only [List.length_drop, List.length_take]; rfl)) ?_
 with_reducible refine (redpencillaw12_at.calls 1 1 t397 t398 _ A3.out).mono ?_
 rintro e w21 ⟨rfl, hb⟩
 refine ⟨_, rfl, ?_⟩
 have n0_ := Aside0.mk (blk_below (g := gb392) (o := .cells #[.int .i64 0, .int .i64 0] 24 (0, 0)) (by (with_reducible repeat (first | refine blk_drewN ?_ _ | refine blk_drew ?_ | refine blk_alloc ?_ _)); exact BK392.out) hb)
 have n1_ := Aside0.mk (below_step (by repeat (first | (with_reducible first | exact HB.out | apply below_alloc | apply pw_below_drewN | apply below_drew1 | refine below_set ?_ GE392.out) | exact HB.out)) hb)
 clear BK392
 clear HB
 have BK392 := n0_
 have HB := n1_
 clear n0_ n1_
 (try clear hb)
 (try clear hb2)
 (try clear hk)
 (try clear hi)
 refine hK.out _ _ ⟨(blk_cell BK392.out 0).trans rfl, (blk_cell BK392.out 1).trans rfl⟩ (fun hHeld => ?_)
 clear hK K
 refine norm_ (a' := ?_) ?_ ?_
 rotate_left
 ·
  show Act.put _ (some 7) _ = _
  simp only [Act.put, List.setIfInBounds_toArray, List.set_cons_zero, List.set_cons_succ, i64_w, i32_w]
  rfl
 refine pure_ (i := 5) (N := some 8) (v := ?_) (a' := ?_) #[true, true, true, true, true, true, false, false, false, false, false, false, false, true, false, false, false, false, false, false, false, false, false, false, false, false] rfl rfl (any_of HT_.out (by kernel_rfl)) (fun _ _ _ h => h) (Or.inl ⟨by rfl, ?_⟩) ?_ ?_
 rotate_left
 ·
  intro w'
  go_simp
  with_reducible rfl
 rotate_left
 ·
  simp only [Act.put, List.setIfInBounds_toArray, List.set_cons_zero, List.set_cons_succ, i64_w, i32_w]
  rfl
 refine one_ (i := 6) (N := some 9) #[true, true, true, true, true, true, true, false, false, false, false, false, false, true, false, false, false, false, false, false, false, false, false, false, false, false] rfl rfl (one_of HT_.out (by kernel_rfl)) (by decide) (fun K hK => ?_)
 refine goes_ Tryz.func77 (by kernel_rfl) rfl #[.int .i64 2, .int .i64 2] (by rfl) rfl rfl (by (try simp only [List.map_toArray, List.map_cons, List.map_nil]); first | done | rfl | (simp only [List.length_drop, List.length_take]; rfl)) ?_
 with_reducible refine (redpencillaw12_at.calls 2 2 t399 t400 _ A4.out).mono ?_
 rintro e w22 ⟨rfl, hb⟩
 refine ⟨_, rfl, ?_⟩
 have n0_ := Aside0.mk (blk_below (g := gb392) (o := .cells #[.int .i64 0, .int .i64 0] 24 (0, 0)) (by (with_reducible repeat (first | refine blk_drewN ?_ _ | refine blk_drew ?_ | refine blk_alloc ?_ _)); exact BK392.out) hb)
 have n1_ := Aside0.mk (below_step (by repeat (first | (with_reducible first | exact HB.out | apply below_alloc | apply pw_below_drewN | apply below_drew1 | refine below_set ?_ GE392.out) | exact HB.out)) hb)
 clear BK392
 clear HB
 have BK392 := n0_
 have HB := n1_
 clear n0_ n1_
 (try clear hb)
 (try clear hb2)
 (try clear hk)
 (try clear hi)
 refine hK.out _ _ ⟨(blk_cell BK392.out 0).trans rfl, (blk_cell BK392.out 1).trans rfl⟩ (fun hHeld => ?_)
 clear hK K
 refine norm_ (a' := ?_) ?_ ?_
 rotate_left
 ·
  show Act.put _ (some 9) _ = _
  simp only [Act.put, List.setIfInBounds_toArray, List.set_cons_zero, List.set_cons_succ, i64_w, i32_w]
  rfl
 refine one_ (i := 7) (N := some 10) #[true, true, true, true, true, true, true, true, false, false, false, false, false, true, false, false, false, false, false, false, false, false, false, false, false, false] rfl rfl (one_of HT_.out (by kernel_rfl)) (by decide) (fun K hK => ?_)
 refine goes_ Tryz.func77 (by kernel_rfl) rfl #[.int .i64 1, .int .i64 1] (by rfl) rfl rfl (by (try simp only [List.map_toArray, List.map_cons, List.map_nil]); first | done | rfl | (simp only [List.length_drop, List.length_take]; rfl)) ?_
 with_reducible refine (redpencillaw12_at.calls 1 1 t401 t402 _ A5.out).mono ?_
 rintro e w23 ⟨rfl, hb⟩
 refine ⟨_, rfl, ?_⟩
 have n0_ := Aside0.mk (blk_below (g := gb392) (o := .cells #[.int .i64 0, .int .i64 0] 24 (0, 0)) (by (with_reducible repeat (first | refine blk_drewN ?_ _ | refine blk_drew ?_ | refine blk_alloc ?_ _)); exact BK392.out) hb)
 have n1_ := Aside0.mk (below_step (by repeat (first | (with_reducible first | exact HB.out | apply below_alloc | apply pw_below_drewN | apply below_drew1 | refine below_set ?_ GE392.out) | exact HB.out)) hb)
 clear BK392
 clear HB
 have BK392 := n0_
 have HB := n1_
 clear n0_ n1_
 (try clear hb)
 (try clear hb2)
 (try clear hk)
 (try clear hi)
 refine hK.out _ _ ⟨(blk_cell BK392.out 0).trans rfl, (blk_cell BK392.out 1).trans rfl⟩ (fun hHeld => ?_)
 clear hK K
 refine norm_ (a' := ?_) ?_ ?_
 rotate_left
 ·
  show Act.put _ (some 10) _ = _
  simp only [Act.put, List.setIfInBounds_toArray, List.set_cons_zero, List.set_cons_succ, i64_w, i32_w]
  rfl
 refine pure_ (i := 8) (N := some 11) (v := ?_) (a' := ?_) #[true, true, true, true, true, true, true, true, true, false, false, false, false, true, false, false, false, false, false, false, false, false, false, false, false, false] rfl rfl (any_of HT_.out (by kernel_rfl)) (fun _ _ _ h => h) (Or.inl ⟨by rfl, ?_⟩) ?_ ?_
 rotate_left
 ·
  intro w'
  go_simp
  with_reducible rfl
 rotate_left
 ·
  simp only [Act.put, List.setIfInBounds_toArray, List.set_cons_zero, List.set_cons_succ, i64_w, i32_w]
  rfl
 refine one_ (i := 9) (N := some 12) #[true, true, true, true, true, true, true, true, true, true, false, false, false, true, false, false, false, false, false, false, false, false, false, false, false, false] rfl rfl (one_of HT_.out (by kernel_rfl)) (by decide) (fun K hK => ?_)
 refine goes_ Tryz.func77 (by kernel_rfl) rfl #[.int .i64 2, .int .i64 3] (by rfl) rfl rfl (by (try simp only [List.map_toArray, List.map_cons, List.map_nil]); first | done | rfl | (simp only [List.length_drop, List.length_take]; rfl)) ?_
 with_reducible refine (redpencillaw12_at.calls 2 3 t403 t404 _ A6.out).mono ?_
 rintro e w24 ⟨rfl, hb⟩
 refine ⟨_, rfl, ?_⟩
 have n0_ := Aside0.mk (blk_below (g := gb392) (o := .cells #[.int .i64 0, .int .i64 0] 24 (0, 0)) (by (with_reducible repeat (first | refine blk_drewN ?_ _ | refine blk_drew ?_ | refine blk_alloc ?_ _)); exact BK392.out) hb)
 have n1_ := Aside0.mk (below_step (by repeat (first | (with_reducible first | exact HB.out | apply below_alloc | apply pw_below_drewN | apply below_drew1 | refine below_set ?_ GE392.out) | exact HB.out)) hb)
 clear BK392
 clear HB
 have BK392 := n0_
 have HB := n1_
 clear n0_ n1_
 (try clear hb)
 (try clear hb2)
 (try clear hk)
 (try clear hi)
 refine hK.out _ _ ⟨(blk_cell BK392.out 0).trans rfl, (blk_cell BK392.out 1).trans rfl⟩ (fun hHeld => ?_)
 clear hK K
 refine norm_ (a' := ?_) ?_ ?_
 rotate_left
 ·
  show Act.put _ (some 12) _ = _
  simp only [Act.put, List.setIfInBounds_toArray, List.set_cons_zero, List.set_cons_succ, i64_w, i32_w]
  rfl
 refine one_ (i := 10) (N := some 13) #[true, true, true, true, true, true, true, true, true, true, true, false, false, true, false, false, false, false, false, false, false, false, false, false, false, false] rfl rfl (one_of HT_.out (by kernel_rfl)) (by decide) (fun K hK => ?_)
 refine goes_ Tryz.func77 (by kernel_rfl) rfl #[.int .i64 1, .int .i64 2] (by rfl) rfl rfl (by (try simp only [List.map_toArray, List.map_cons, List.map_nil]); first | done | rfl | (simp only [List.length_drop, List.length_take]; rfl)) ?_
 with_reducible refine (redpencillaw12_at.calls 1 2 t405 t406 _ A7.out).mono ?_
 rintro e w25 ⟨rfl, hb⟩
 refine ⟨_, rfl, ?_⟩
 have n0_ := Aside0.mk (blk_below (g := gb392) (o := .cells #[.int .i64 0, .int .i64 0] 24 (0, 0)) (by (with_reducible repeat (first | refine blk_drewN ?_ _ | refine blk_drew ?_ | refine blk_alloc ?_ _)); exact BK392.out) hb)
 have n1_ := Aside0.mk (below_step (by repeat (first | (with_reducible first | exact HB.out | apply below_alloc | apply pw_below_drewN | apply below_drew1 | refine below_set ?_ GE392.out) | exact HB.out)) hb)
 clear BK392
 clear HB
 have BK392 := n0_
 have HB := n1_
 clear n0_ n1_
 (try clear hb)
 (try clear hb2)
 (try clear hk)
 (try clear hi)
 refine hK.out _ _ ⟨(blk_cell BK392.out 0).trans rfl, (blk_cell BK392.out 1).trans rfl⟩ (fun hHeld => ?_)
 clear hK K
 refine norm_ (a' := ?_) ?_ ?_
 rotate_left
 ·
  show Act.put _ (some 13) _ = _
  simp only [Act.put, List.setIfInBounds_toArray, List.set_cons_zero, List.set_cons_succ, i64_w, i32_w]
  rfl
 refine pure_ (i := 11) (N := some 14) (v := ?_) (a' := ?_) #[true, true, true, true, true, true, true, true, true, true, true, true, false, true, false, false, false, false, false, false, false, false, false, false, false, false] rfl rfl (any_of HT_.out (by kernel_rfl)) (fun _ _ _ h => h) (Or.inl ⟨by rfl, ?_⟩) ?_ ?_
 rotate_left
 ·
  intro w'
  go_simp
  with_reducible rfl
 rotate_left
 ·
  simp only [Act.put, List.setIfInBounds_toArray, List.set_cons_zero, List.set_cons_succ, i64_w, i32_w]
  rfl
 refine one_ (i := 12) (N := some 15) #[true, true, true, true, true, true, true, true, true, true, true, true, true, true, false, false, false, false, false, false, false, false, false, false, false, false] rfl rfl (one_of HT_.out (by kernel_rfl)) (by decide) (fun K hK => ?_)
 refine goes_ Tryz.func77 (by kernel_rfl) rfl #[.int .i64 1, .int .i64 4] (by rfl) rfl rfl (by (try simp only [List.map_toArray, List.map_cons, List.map_nil]); first | done | rfl | (simp only [List.length_drop, List.length_take]; rfl)) ?_
 with_reducible refine (redpencillaw12_at.calls 1 4 t407 t408 _ A8.out).mono ?_
 rintro e w26 ⟨rfl, hb⟩
 refine ⟨_, rfl, ?_⟩
 have n0_ := Aside0.mk (blk_below (g := gb392) (o := .cells #[.int .i64 0, .int .i64 0] 24 (0, 0)) (by (with_reducible repeat (first | refine blk_drewN ?_ _ | refine blk_drew ?_ | refine blk_alloc ?_ _)); exact BK392.out) hb)
 have n1_ := Aside0.mk (below_step (by repeat (first | (with_reducible first | exact HB.out | apply below_alloc | apply pw_below_drewN | apply below_drew1 | refine below_set ?_ GE392.out) | exact HB.out)) hb)
 clear BK392
 clear HB
 have BK392 := n0_
 have HB := n1_
 clear n0_ n1_
 (try clear hb)
 (try clear hb2)
 (try clear hk)
 (try clear hi)
 refine hK.out _ _ ⟨(blk_cell BK392.out 0).trans rfl, (blk_cell BK392.out 1).trans rfl⟩ (fun hHeld => ?_)
 clear hK K
 refine norm_ (a' := ?_) ?_ ?_
 rotate_left
 ·
  show Act.put _ (some 15) _ = _
  simp only [Act.put, List.setIfInBounds_toArray, List.set_cons_zero, List.set_cons_succ, i64_w, i32_w]
  rfl
 refine pure_ (i := 14) (N := some 17) (v := ?_) (a' := ?_) #[true, true, true, true, true, true, true, true, true, true, true, true, true, true, true, false, false, false, false, false, false, false, false, false, false, false] rfl rfl (any_of HT_.out (by kernel_rfl)) (fun _ _ _ h => h) (Or.inl ⟨by rfl, ?_⟩) ?_ ?_
 rotate_left
 ·
  intro w'
  go_simp
  with_reducible rfl
 rotate_left
 ·
  simp only [Act.put, List.setIfInBounds_toArray, List.set_cons_zero, List.set_cons_succ, i64_w, i32_w]
  rfl
 refine one_ (i := 15) (N := some 18) #[true, true, true, true, true, true, true, true, true, true, true, true, true, true, true, true, false, false, false, false, false, false, false, false, false, false] rfl rfl (one_of HT_.out (by kernel_rfl)) (by decide) (fun K hK => ?_)
 refine goes_ Tryz.func77 (by kernel_rfl) rfl #[.int .i64 3, .int .i64 4] (by rfl) rfl rfl (by (try simp only [List.map_toArray, List.map_cons, List.map_nil]); first | done | rfl | (simp only [List.length_drop, List.length_take]; rfl)) ?_
 with_reducible refine (redpencillaw12_at.calls 3 4 t409 t410 _ A9.out).mono ?_
 rintro e w27 ⟨rfl, hb⟩
 refine ⟨_, rfl, ?_⟩
 have n0_ := Aside0.mk (blk_below (g := gb392) (o := .cells #[.int .i64 0, .int .i64 0] 24 (0, 0)) (by (with_reducible repeat (first | refine blk_drewN ?_ _ | refine blk_drew ?_ | refine blk_alloc ?_ _)); exact BK392.out) hb)
 have n1_ := Aside0.mk (below_step (by repeat (first | (with_reducible first | exact HB.out | apply below_alloc | apply pw_below_drewN | apply below_drew1 | refine below_set ?_ GE392.out) | exact HB.out)) hb)
 clear BK392
 clear HB
 have BK392 := n0_
 have HB := n1_
 clear n0_ n1_
 (try clear hb)
 (try clear hb2)
 (try clear hk)
 (try clear hi)
 refine hK.out _ _ ⟨(blk_cell BK392.out 0).trans rfl, (blk_cell BK392.out 1).trans rfl⟩ (fun hHeld => ?_)
 clear hK K
 refine norm_ (a' := ?_) ?_ ?_
 rotate_left
 ·
  show Act.put _ (some 18) _ = _
  simp only [Act.put, List.setIfInBounds_toArray, List.set_cons_zero, List.set_cons_succ, i64_w, i32_w]
  rfl
 refine one_ (i := 16) (N := some 19) #[true, true, true, true, true, true, true, true, true, true, true, true, true, true, true, true, true, false, false, false, false, false, false, false, false, false] rfl rfl (one_of HT_.out (by kernel_rfl)) (by decide) (fun K hK => ?_)
 refine goes_ Tryz.func77 (by kernel_rfl) rfl #[.int .i64 9, .int .i64 9] (by rfl) rfl rfl (by (try simp only [List.map_toArray, List.map_cons, List.map_nil]); first | done | rfl | (simp only [List.length_drop, List.length_take]; rfl)) ?_
 with_reducible refine (redpencillaw12_at.calls 9 9 t411 t412 _ A10.out).mono ?_
 rintro e w28 ⟨rfl, hb⟩
 refine ⟨_, rfl, ?_⟩
 have n0_ := Aside0.mk (blk_below (g := gb392) (o := .cells #[.int .i64 0, .int .i64 0] 24 (0, 0)) (by (with_reducible repeat (first | refine blk_drewN ?_ _ | refine blk_drew ?_ | refine blk_alloc ?_ _)); exact BK392.out) hb)
 have n1_ := Aside0.mk (below_step (by repeat (first | (with_reducible first | exact HB.out | apply below_alloc | apply pw_below_drewN | apply below_drew1 | refine below_set ?_ GE392.out) | exact HB.out)) hb)
 clear BK392
 clear HB
 have BK392 := n0_
 have HB := n1_
 clear n0_ n1_
 (try clear hb)
 (try clear hb2)
 (try clear hk)
 (try clear hi)
 refine hK.out _ _ ⟨(blk_cell BK392.out 0).trans rfl, (blk_cell BK392.out 1).trans rfl⟩ (fun hHeld => ?_)
 clear hK K
 refine norm_ (a' := ?_) ?_ ?_
 rotate_left
 ·
  show Act.put _ (some 19) _ = _
  simp only [Act.put, List.setIfInBounds_toArray, List.set_cons_zero, List.set_cons_succ, i64_w, i32_w]
  rfl
 refine pure_ (i := 17) (N := some 20) (v := ?_) (a' := ?_) #[true, true, true, true, true, true, true, true, true, true, true, true, true, true, true, true, true, true, false, false, false, false, false, false, false, false] rfl rfl (any_of HT_.out (by kernel_rfl)) (fun _ _ _ h => h) (Or.inl ⟨by rfl, ?_⟩) ?_ ?_
 rotate_left
 ·
  intro w'
  go_simp
  with_reducible rfl
 rotate_left
 ·
  simp only [Act.put, List.setIfInBounds_toArray, List.set_cons_zero, List.set_cons_succ, i64_w, i32_w]
  rfl
 refine one_ (i := 18) (N := some 21) #[true, true, true, true, true, true, true, true, true, true, true, true, true, true, true, true, true, true, true, false, false, false, false, false, false, false] rfl rfl (one_of HT_.out (by kernel_rfl)) (by decide) (fun K hK => ?_)
 refine goes_ Tryz.func77 (by kernel_rfl) rfl #[.int .i64 3, .int .i64 5] (by rfl) rfl rfl (by (try simp only [List.map_toArray, List.map_cons, List.map_nil]); first | done | rfl | (simp only [List.length_drop, List.length_take]; rfl)) ?_
 with_reducible refine (redpencillaw12_at.calls 3 5 t413 t414 _ A11.out).mono ?_
 rintro e w29 ⟨rfl, hb⟩
 refine ⟨_, rfl, ?_⟩
 have n0_ := Aside0.mk (blk_below (g := gb392) (o := .cells #[.int .i64 0, .int .i64 0] 24 (0, 0)) (by (with_reducible repeat (first | refine blk_drewN ?_ _ | refine blk_drew ?_ | refine blk_alloc ?_ _)); exact BK392.out) hb)
 have n1_ := Aside0.mk (below_step (by repeat (first | (with_reducible first | exact HB.out | apply below_alloc | apply pw_below_drewN | apply below_drew1 | refine below_set ?_ GE392.out) | exact HB.out)) hb)
 clear BK392
 clear HB
 have BK392 := n0_
 have HB := n1_
 clear n0_ n1_
 (try clear hb)
 (try clear hb2)
 (try clear hk)
 (try clear hi)
 refine hK.out _ _ ⟨(blk_cell BK392.out 0).trans rfl, (blk_cell BK392.out 1).trans rfl⟩ (fun hHeld => ?_)
 clear hK K
 refine norm_ (a' := ?_) ?_ ?_
 rotate_left
 ·
  show Act.put _ (some 21) _ = _
  simp only [Act.put, List.setIfInBounds_toArray, List.set_cons_zero, List.set_cons_succ, i64_w, i32_w]
  rfl
 refine one_ (i := 19) (N := some 22) #[true, true, true, true, true, true, true, true, true, true, true, true, true, true, true, true, true, true, true, true, false, false, false, false, false, false] rfl rfl (one_of HT_.out (by kernel_rfl)) (by decide) (fun K hK => ?_)
 refine goes_ Tryz.func77 (by kernel_rfl) rfl #[.int .i64 3, .int .i64 6] (by rfl) rfl rfl (by (try simp only [List.map_toArray, List.map_cons, List.map_nil]); first | done | rfl | (simp only [List.length_drop, List.length_take]; rfl)) ?_
 with_reducible refine (redpencillaw12_at.calls 3 6 t415 t416 _ A12.out).mono ?_
 rintro e w30 ⟨rfl, hb⟩
 refine ⟨_, rfl, ?_⟩
 have n0_ := Aside0.mk (blk_below (g := gb392) (o := .cells #[.int .i64 0, .int .i64 0] 24 (0, 0)) (by (with_reducible repeat (first | refine blk_drewN ?_ _ | refine blk_drew ?_ | refine blk_alloc ?_ _)); exact BK392.out) hb)
 have n1_ := Aside0.mk (below_step (by repeat (first | (with_reducible first | exact HB.out | apply below_alloc | apply pw_below_drewN | apply below_drew1 | refine below_set ?_ GE392.out) | exact HB.out)) hb)
 clear BK392
 clear HB
 have BK392 := n0_
 have HB := n1_
 clear n0_ n1_
 (try clear hb)
 (try clear hb2)
 (try clear hk)
 (try clear hi)
 refine hK.out _ _ ⟨(blk_cell BK392.out 0).trans rfl, (blk_cell BK392.out 1).trans rfl⟩ (fun hHeld => ?_)
 clear hK K
 refine norm_ (a' := ?_) ?_ ?_
 rotate_left
 ·
  show Act.put _ (some 22) _ = _
  simp only [Act.put, List.setIfInBounds_toArray, List.set_cons_zero, List.set_cons_succ, i64_w, i32_w]
  rfl
 refine pure_ (i := 20) (N := some 23) (v := ?_) (a' := ?_) #[true, true, true, true, true, true, true, true, true, true, true, true, true, true, true, true, true, true, true, true, true, false, false, false, false, false] rfl rfl (any_of HT_.out (by kernel_rfl)) (fun _ _ _ h => h) (Or.inl ⟨by rfl, ?_⟩) ?_ ?_
 rotate_left
 ·
  intro w'
  go_simp
  with_reducible rfl
 rotate_left
 ·
  simp only [Act.put, List.setIfInBounds_toArray, List.set_cons_zero, List.set_cons_succ, i64_w, i32_w]
  rfl
 refine one_ (i := 21) (N := some 24) #[true, true, true, true, true, true, true, true, true, true, true, true, true, true, true, true, true, true, true, true, true, true, false, false, false, false] rfl rfl (one_of HT_.out (by kernel_rfl)) (by decide) (fun K hK => ?_)
 refine goes_ Tryz.func77 (by kernel_rfl) rfl #[.int .i64 3, .int .i64 6] (by rfl) rfl rfl (by (try simp only [List.map_toArray, List.map_cons, List.map_nil]); first | done | rfl | (simp only [List.length_drop, List.length_take]; rfl)) ?_
 with_reducible refine (redpencillaw12_at.calls 3 6 t417 t418 _ A13.out).mono ?_
 rintro e w31 ⟨rfl, hb⟩
 refine ⟨_, rfl, ?_⟩
 have n0_ := Aside0.mk (blk_below (g := gb392) (o := .cells #[.int .i64 0, .int .i64 0] 24 (0, 0)) (by (with_reducible repeat (first | refine blk_drewN ?_ _ | refine blk_drew ?_ | refine blk_alloc ?_ _)); exact BK392.out) hb)
 have n1_ := Aside0.mk (below_step (by repeat (first | (with_reducible first | exact HB.out | apply below_alloc | apply pw_below_drewN | apply below_drew1 | refine below_set ?_ GE392.out) | exact HB.out)) hb)
 clear BK392
 clear HB
 have BK392 := n0_
 have HB := n1_
 clear n0_ n1_
 (try clear hb)
 (try clear hb2)
 (try clear hk)
 (try clear hi)
 refine hK.out _ _ ⟨(blk_cell BK392.out 0).trans rfl, (blk_cell BK392.out 1).trans rfl⟩ (fun hHeld => ?_)
 clear hK K
 refine norm_ (a' := ?_) ?_ ?_
 rotate_left
 ·
  show Act.put _ (some 24) _ = _
  simp only [Act.put, List.setIfInBounds_toArray, List.set_cons_zero, List.set_cons_succ, i64_w, i32_w]
  rfl
 refine one_ (i := 22) (N := some 25) #[true, true, true, true, true, true, true, true, true, true, true, true, true, true, true, true, true, true, true, true, true, true, true, false, false, false] rfl rfl (one_of HT_.out (by kernel_rfl)) (by decide) (fun K hK => ?_)
 refine goes_ Tryz.func77 (by kernel_rfl) rfl #[.int .i64 3, .int .i64 5] (by rfl) rfl rfl (by (try simp only [List.map_toArray, List.map_cons, List.map_nil]); first | done | rfl | (simp only [List.length_drop, List.length_take]; rfl)) ?_
 with_reducible refine (redpencillaw12_at.calls 3 5 t419 t420 _ A14.out).mono ?_
 rintro e w32 ⟨rfl, hb⟩
 refine ⟨_, rfl, ?_⟩
 have n0_ := Aside0.mk (blk_below (g := gb392) (o := .cells #[.int .i64 0, .int .i64 0] 24 (0, 0)) (by (with_reducible repeat (first | refine blk_drewN ?_ _ | refine blk_drew ?_ | refine blk_alloc ?_ _)); exact BK392.out) hb)
 have n1_ := Aside0.mk (below_step (by repeat (first | (with_reducible first | exact HB.out | apply below_alloc | apply pw_below_drewN | apply below_drew1 | refine below_set ?_ GE392.out) | exact HB.out)) hb)
 clear BK392
 clear HB
 have BK392 := n0_
 have HB := n1_
 clear n0_ n1_
 (try clear hb)
 (try clear hb2)
 (try clear hk)
 (try clear hi)
 refine hK.out _ _ ⟨(blk_cell BK392.out 0).trans rfl, (blk_cell BK392.out 1).trans rfl⟩ (fun hHeld => ?_)
 clear hK K
 refine norm_ (a' := ?_) ?_ ?_
 rotate_left
 ·
  show Act.put _ (some 25) _ = _
  simp only [Act.put, List.setIfInBounds_toArray, List.set_cons_zero, List.set_cons_succ, i64_w, i32_w]
  rfl
 refine pure_ (i := 23) (N := some 26) (v := ?_) (a' := ?_) #[true, true, true, true, true, true, true, true, true, true, true, true, true, true, true, true, true, true, true, true, true, true, true, true, false, false] rfl rfl (any_of HT_.out (by kernel_rfl)) (fun _ _ _ h => h) (Or.inl ⟨by rfl, ?_⟩) ?_ ?_
 rotate_left
 ·
  intro w'
  go_simp
  with_reducible rfl
 rotate_left
 ·
  simp only [Act.put, List.setIfInBounds_toArray, List.set_cons_zero, List.set_cons_succ, i64_w, i32_w]
  rfl
 refine one_ (i := 24) (N := some 27) #[true, true, true, true, true, true, true, true, true, true, true, true, true, true, true, true, true, true, true, true, true, true, true, true, true, false] rfl rfl (one_of HT_.out (by kernel_rfl)) (by decide) (fun K hK => ?_)
 refine Kd.R_lit_step k35 _ 35 ?hg (N := 27) ?hd (xs := ([(⟨(⟨t393, t394⟩ : S24), (⟨0, 0⟩ : S24), 1, 97⟩ : S35), (⟨(⟨t395, t396⟩ : S24), (⟨t397, t398⟩ : S24), 2, 98⟩ : S35), (⟨(⟨t399, t400⟩ : S24), (⟨t401, t402⟩ : S24), 2, 0⟩ : S35), (⟨(⟨t403, t404⟩ : S24), (⟨t405, t406⟩ : S24), 3, 100⟩ : S35), (⟨(⟨t407, t408⟩ : S24), (⟨0, 0⟩ : S24), 4, 101⟩ : S35), (⟨(⟨t409, t410⟩ : S24), (⟨t411, t412⟩ : S24), 1, 102⟩ : S35), (⟨(⟨t413, t414⟩ : S24), (⟨t415, t416⟩ : S24), 1, 103⟩ : S35), (⟨(⟨t417, t418⟩ : S24), (⟨t419, t420⟩ : S24), 1, 104⟩ : S35)] : List (S35))) (inner := [.int .i64 t393, .int .i64 t394, .int .i64 0, .int .i64 0, .int .i64 1, .int .i32 97, .int .i64 t395, .int .i64 t396, .int .i64 t397, .int .i64 t398, .int .i64 2, .int .i32 98, .int .i64 t399, .int .i64 t400, .int .i64 t401, .int .i64 t402, .int .i64 2, .int .i32 0, .int .i64 t403, .int .i64 t404, .int .i64 t405, .int .i64 t406, .int .i64 3, .int .i32 100, .int .i64 t407, .int .i64 t408, .int .i64 0, .int .i64 0, .int .i64 4, .int .i32 101, .int .i64 t409, .int .i64 t410, .int .i64 t411, .int .i64 t412, .int .i64 1, .int .i32 102, .int .i64 t413, .int .i64 t414, .int .i64 t415, .int .i64 t416, .int .i64 1, .int .i32 103, .int .i64 t417, .int .i64 t418, .int .i64 t419, .int .i64 t420, .int .i64 1, .int .i32 104]) (ok := fun _ => True) (okp := fun _ => True) ?hr ?hp (fun _ hk => hk) trivial (Below.refl _ _) (Nat.le_refl _) (by simp) ?_; (case hd => rfl); (case hg => rfl); (case hr => first | (go_simp; done) | (go_simp; rfl)); (case hp => exact (Reps.c6 (show Kd.M k35 _ _ _ (⟨(⟨t393, t394⟩ : S24), (⟨0, 0⟩ : S24), 1, 97⟩ : S35) [.int .i64 t393, .int .i64 t394, .int .i64 0, .int .i64 0, .int .i64 1, .int .i32 97] from (k35_mkM _ _ _ (⟨(⟨t393, t394⟩ : S24), (⟨0, 0⟩ : S24), 1, 97⟩ : S35) )) (Reps.c6 (show Kd.M k35 _ _ _ (⟨(⟨t395, t396⟩ : S24), (⟨t397, t398⟩ : S24), 2, 98⟩ : S35) [.int .i64 t395, .int .i64 t396, .int .i64 t397, .int .i64 t398, .int .i64 2, .int .i32 98] from (k35_mkM _ _ _ (⟨(⟨t395, t396⟩ : S24), (⟨t397, t398⟩ : S24), 2, 98⟩ : S35) )) (Reps.c6 (show Kd.M k35 _ _ _ (⟨(⟨t399, t400⟩ : S24), (⟨t401, t402⟩ : S24), 2, 0⟩ : S35) [.int .i64 t399, .int .i64 t400, .int .i64 t401, .int .i64 t402, .int .i64 2, .int .i32 0] from (k35_mkM _ _ _ (⟨(⟨t399, t400⟩ : S24), (⟨t401, t402⟩ : S24), 2, 0⟩ : S35) )) (Reps.c6 (show Kd.M k35 _ _ _ (⟨(⟨t403, t404⟩ : S24), (⟨t405, t406⟩ : S24), 3, 100⟩ : S35) [.int .i64 t403, .int .i64 t404, .int .i64 t405, .int .i64 t406, .int .i64 3, .int .i32 100] from (k35_mkM _ _ _ (⟨(⟨t403, t404⟩ : S24), (⟨t405, t406⟩ : S24), 3, 100⟩ : S35) )) (Reps.c6 (show Kd.M k35 _ _ _ (⟨(⟨t407, t408⟩ : S24), (⟨0, 0⟩ : S24), 4, 101⟩ : S35) [.int .i64 t407, .int .i64 t408, .int .i64 0, .int .i64 0, .int .i64 4, .int .i32 101] from (k35_mkM _ _ _ (⟨(⟨t407, t408⟩ : S24), (⟨0, 0⟩ : S24), 4, 101⟩ : S35) )) (Reps.c6 (show Kd.M k35 _ _ _ (⟨(⟨t409, t410⟩ : S24), (⟨t411, t412⟩ : S24), 1, 102⟩ : S35) [.int .i64 t409, .int .i64 t410, .int .i64 t411, .int .i64 t412, .int .i64 1, .int .i32 102] from (k35_mkM _ _ _ (⟨(⟨t409, t410⟩ : S24), (⟨t411, t412⟩ : S24), 1, 102⟩ : S35) )) (Reps.c6 (show Kd.M k35 _ _ _ (⟨(⟨t413, t414⟩ : S24), (⟨t415, t416⟩ : S24), 1, 103⟩ : S35) [.int .i64 t413, .int .i64 t414, .int .i64 t415, .int .i64 t416, .int .i64 1, .int .i32 103] from (k35_mkM _ _ _ (⟨(⟨t413, t414⟩ : S24), (⟨t415, t416⟩ : S24), 1, 103⟩ : S35) )) (Reps.c6 (show Kd.M k35 _ _ _ (⟨(⟨t417, t418⟩ : S24), (⟨t419, t420⟩ : S24), 1, 104⟩ : S35) [.int .i64 t417, .int .i64 t418, .int .i64 t419, .int .i64 t420, .int .i64 1, .int .i32 104] from (k35_mkM _ _ _ (⟨(⟨t417, t418⟩ : S24), (⟨t419, t420⟩ : S24), 1, 104⟩ : S35) )) (Reps.none _ _))))))))))
 intro v422 w33 ho34 hb hg_ hnew_
 clear hg_ hnew_
 (first | rw [← Ny421.out] at ho34 | (simp only [Int.reduceToNat] at ho34; rw [← Ny421.out] at ho34))
 have n0_ := Aside0.mk (Kd.R_lower ho34 (below_size (by repeat (first | (with_reducible first | exact HB.out | apply below_alloc | apply pw_below_drewN | apply below_drew1 | refine below_set ?_ GE392.out) | exact HB.out))))
 have n1_ := Aside0.mk (blk_below (g := gb392) (o := .cells #[.int .i64 0, .int .i64 0] 24 (0, 0)) (by (with_reducible repeat (first | refine blk_drewN ?_ _ | refine blk_drew ?_ | refine blk_alloc ?_ _)); exact BK392.out) hb)
 have n2_ := Aside0.mk (below_step (by repeat (first | (with_reducible first | exact HB.out | apply below_alloc | apply pw_below_drewN | apply below_drew1 | refine below_set ?_ GE392.out) | exact HB.out)) hb)
 clear BK392
 clear HB
 have HO423 := n0_
 have BK392 := n1_
 have HB := n2_
 clear n0_ n1_ n2_
 clear hb ho34
 refine hK.out _ _ ⟨(blk_cell BK392.out 0).trans rfl, (blk_cell BK392.out 1).trans rfl⟩ (fun hHeld => ?_)
 clear hK K
 refine norm_ (a' := ?_) ?_ ?_
 rotate_left
 ·
  show Act.put _ (some 27) _ = _
  simp only [Act.put, List.setIfInBounds_toArray, List.set_cons_zero, List.set_cons_succ, i64_w, i32_w]
  rfl
 refine pure_ (i := 25) (N := some 0) (v := ?_) (a' := ?_) #[true, true, true, true, true, true, true, true, true, true, true, true, true, true, true, true, true, true, true, true, true, true, true, true, true, true] rfl rfl (any_of HT_.out (by kernel_rfl)) (fun _ _ _ h => h) (Or.inl ⟨by rfl, ?_⟩) ?_ ?_
 rotate_left
 ·
  intro w'
  go_simp
  with_reducible rfl
 rotate_left
 ·
  simp only [Act.put, List.setIfInBounds_toArray, List.set_cons_zero, List.set_cons_succ, i64_w, i32_w]
  rfl
 refine done_ (done_of HT_.out (by kernel_rfl)) ?_
 try go_wp2
 go_ret
 exact ⟨_, by first | rfl | (simp [errW_none, errW_some] <;> rfl) | (simp [*, errW_none, errW_some] <;> rfl), by (with_reducible repeat (first | apply Kd.R_alloc | apply Kd.R_drewN | apply Kd.R_drew)); exact HO423.out, by repeat (first | (with_reducible first | exact HB.out | apply below_alloc | apply pw_below_drewN | apply below_drew1 | refine below_set ?_ GE392.out) | exact HB.out)⟩
end Go.Proofs.YtjlpaagnajmogaaGreat.PWalk
end
section
namespace Go.Proofs.YtjlpaagnajmogaaGreat.PWalk
open Go.RowKit Go.Proofs.YtjlpaagnajmogaaGreatW.PrintWords Go.Proofs.YtjlpaagnajmogaaGreatW.PrintLast Go.Proofs.YtjlpaagnajmogaaGreatW.PrintMore
set_option linter.unusedVariables false
set_option linter.unusedSimpArgs false
open Go.Shelf
attribute [local go_sem] Oper.semAt_some
def GLi : List Node := [⟨⟨1, 1⟩, ⟨0, 0⟩, 1, 97⟩, ⟨⟨1, 2⟩, ⟨1, 1⟩, 2, 98⟩, ⟨⟨2, 2⟩, ⟨1, 1⟩, 2, 0⟩, ⟨⟨2, 3⟩, ⟨1, 2⟩, 3, 100⟩, ⟨⟨1, 4⟩, ⟨0, 0⟩, 4, 101⟩, ⟨⟨3, 4⟩, ⟨9, 9⟩, 1, 102⟩, ⟨⟨3, 5⟩, ⟨3, 6⟩, 1, 103⟩, ⟨⟨3, 6⟩, ⟨3, 5⟩, 1, 104⟩]
theorem given12_is : redpencillaw12_given.f = some GLi := by kernel_rfl
theorem kn12_0 : redpencillaw12_texts.f 60 GLi ⟨#[101, 97, 98, 100]⟩ 0 = some true := by kernel_rfl
theorem kn12_1 : redpencillaw12_has.f GLi 4 0 = some true := by kernel_rfl
theorem kn12_2 : redpencillaw12_sees.f 60 GLi 2 1 2 1 1 2 98 0 = some true := by kernel_rfl
theorem kn12_3 : redpencillaw12_sees.f 60 GLi 4 0 0 0 0 0 0 3 = some true := by kernel_rfl
theorem kn12_4 : redpencillaw12_of.f GLi 1 2 2 0 = some true := by kernel_rfl
theorem kn12_5 : redpencillaw12_of.f GLi 2 2 0 9 = some true := by kernel_rfl
theorem kn12_6 : redpencillaw12_of.f GLi 3 4 0 9 = some true := by kernel_rfl
theorem kn12_7 : redpencillaw12_of.f GLi 0 0 0 2 = some true := by kernel_rfl
theorem kn12_8 : redpencillaw12_before.f GLi 2 2 2 0 = some true := by kernel_rfl
theorem kn12_9 : redpencillaw12_before.f GLi 2 3 3 0 = some true := by kernel_rfl
theorem kn12_10 : redpencillaw12_before.f GLi 3 4 0 9 = some true := by kernel_rfl
theorem kn12_11 : redpencillaw12_left.f 60 GLi 0 0 0 0 = some true := by kernel_rfl
theorem kn12_12 : redpencillaw12_left.f 60 GLi 4 2 3 0 = some true := by kernel_rfl
theorem kn12_13 : redpencillaw12_left.f 60 GLi 5 0 0 3 = some true := by kernel_rfl
theorem kn12_14 : redpencillaw12_dots.f 60 GLi 1 3 [⟨1, 1⟩, ⟨1, 2⟩] 0 = some true := by kernel_rfl
theorem kn12_15 : redpencillaw12_dots.f 60 GLi 4 4 [] 0 = some true := by kernel_rfl
theorem kn12_16 : redpencillaw12_dots.f 60 GLi 3 2 [] 3 = some true := by kernel_rfl
theorem kn12_17 : redpencillaw12_texts.f 60 [] ⟨#[]⟩ 0 = some true := by kernel_rfl
theorem kn12_18 : redpencillaw12_left.f 60 [] 0 0 0 0 = some true := by kernel_rfl
theorem nilN {W : World} : Kd.C k35 W none ([] : List Node).length [] := ⟨rfl, by decide, fun h => absurd h (by decide)⟩
theorem nilDD {W : World} : Kd.C k24 W none ([] : List Dot).length [] := ⟨rfl, by decide, fun h => absurd h (by decide)⟩
def redpencillaw12_known.f : Option Bool := some true
/-- What lies ready for every call of known. -/
structure K12 (w : World) (b g c R M : Nat) (V : World) : Prop where
 own : Kd.R k35 35 V b (fun _ => True) (.slice (some ⟨g, 0, none⟩) 8 c) GLi
 root : V.heap[R]? = some (dotC ⟨0, 0⟩)
 blank : V.heap[M]? = some (.cells #[.int .i64 0, .int .i64 0, .int .i64 0, .int .i64 0, .int .i64 0, .int .i32 0] 35 (0, 0))
 below : Below w.heap.size w V
theorem K12.more {w : World} {b g c R M : Nat} {V V' : World} (h : K12 w b g c R M V) (hb : Below V.heap.size V V') : K12 w b g c R M V' := ⟨own_more h.own hb, blk_keep h.root hb, blk_keep h.blank hb, below_more h.below hb⟩
theorem K12.x0 {w : World} {b g c R M : Nat} {V : World} (h : K12 w b g c R M V) : V.cell? ⟨R, 0, none⟩ = some (.int .i64 0) ∧ V.cell? ⟨R, 1, none⟩ = some (.int .i64 0) := ⟨(blk_cell h.root 0).trans rfl, (blk_cell h.root 1).trans rfl⟩
theorem K12.row1 {w : World} {b g c R M : Nat} {V : World} (h : K12 w b g c R M V) : V.cell? ⟨g, 6, none⟩ = some (.int .i64 1) ∧ V.cell? ⟨g, 7, none⟩ = some (.int .i64 2) ∧ V.cell? ⟨g, 8, none⟩ = some (.int .i64 1) ∧ V.cell? ⟨g, 9, none⟩ = some (.int .i64 1) ∧ V.cell? ⟨g, 10, none⟩ = some (.int .i64 2) ∧ V.cell? ⟨g, 11, none⟩ = some (.int .i32 98) := row_six h.own (k := 1) rfl
set_option maxHeartbeats 4000000 in
set_option maxRecDepth 100000 in
theorem redpencillaw12_known.calls (r : Bool) (w : World) (h : redpencillaw12_known.f = some r) : Calls Tryz.prog 34 #[] w fun e w' => e = .returned (.bool r) ∧ Below w.heap.size w w' := by
 obtain rfl : true = r := Option.some.inj h
 clear h
 have hu1 := Tryz.underlying35
 have hu2 := Tryz.underlying24
 go_enter Tryz.func34, Tryz.ntmps34
 go_wp2_with fail
 refine (redpencillaw12_given.calls GLi w given12_is).mono ?_
 rintro e V ⟨vg, rfl, hg, hb⟩
 obtain ⟨g, c, rfl⟩ : ∃ g c, vg = .slice (some ⟨g, 0, none⟩) 8 c := by
  obtain ⟨g, cap, h1, _⟩ := Kd.R_form hg (by decide)
  exact ⟨g, cap, h1⟩
 have HK := Aside0.mk (show K12 w w.heap.size g c V.heap.size (V.heap.size + 1) ((V.alloc (dotC ⟨0, 0⟩)).alloc (.cells #[.int .i64 0, .int .i64 0, .int .i64 0, .int .i64 0, .int .i64 0, .int .i32 0] 35 (0, 0))) from ⟨own_more hg (below_alloc (below_alloc (Below.refl _ V) _) _), blk_keep (blk_new V _) (below_alloc (Below.refl _ _) _), by have := blk_new (V.alloc (dotC ⟨0, 0⟩)) (.cells #[.int .i64 0, .int .i64 0, .int .i64 0, .int .i64 0, .int .i64 0, .int .i32 0] 35 (0, 0)); rwa [show (V.alloc (dotC ⟨0, 0⟩)).heap.size = V.heap.size + 1 by simp] at this, below_alloc (below_alloc hb _) _⟩)
 clear hg hb
 obtain ⟨R, HR⟩ : ∃ R, Aside0 (V.heap.size = R) := ⟨_, ⟨rfl⟩⟩
 rw [HR.out] at HK
 go_wp2_with fail
 rw [HR.out]
 generalize hV0 : (V.alloc (Obj.cells #[Value.int IntKind.i64 0, Value.int IntKind.i64 0] 24)).alloc (Obj.cells #[Value.int IntKind.i64 0, Value.int IntKind.i64 0, Value.int IntKind.i64 0, Value.int IntKind.i64 0, Value.int IntKind.i64 0, Value.int IntKind.i32 0] 35) = V0 at HK ⊢
 clear hV0 HR
 clear V
 refine (redpencillaw12_texts.calls 60 (some ⟨g, 0, none⟩) c GLi ⟨#[101, 97, 98, 100]⟩ 0 true V0 (Kd.R_reads' HK.out.own).2.2 (Kd.R_reads' HK.out.own).2.1 kn12_0).mono ?_
 rintro e V1 ⟨rfl, hb⟩
 have HK := Aside0.mk (HK.out.more hb)
 clear hb
 go_wp2_with fail
 refine (redpencillaw12_has.calls  (some ⟨g, 0, none⟩) c GLi 4 0 true V1 (Kd.R_reads' HK.out.own).2.2 (Kd.R_reads' HK.out.own).2.1 kn12_1).mono ?_
 rintro e V2 ⟨rfl, hb⟩
 have HK := Aside0.mk (HK.out.more hb)
 clear hb
 obtain ⟨y0, y1, y2, y3, y4, y5⟩ := HK.out.row1
 go_wp2_with fail
 clear y0 y1 y2 y3 y4 y5
 refine (redpencillaw12_sees.calls 60 (some ⟨g, 0, none⟩) c GLi 2 1 2 1 1 2 98 0 true V2 (Kd.R_reads' HK.out.own).2.2 (Kd.R_reads' HK.out.own).2.1 kn12_2).mono ?_
 rintro e V3 ⟨rfl, hb⟩
 have HK := Aside0.mk (HK.out.more hb)
 clear hb
 obtain ⟨y0, y1, y2, y3, y4, y5⟩ := box_cells HK.out.blank
 go_wp2_with fail
 clear y0 y1 y2 y3 y4 y5
 refine (redpencillaw12_sees.calls 60 (some ⟨g, 0, none⟩) c GLi 4 0 0 0 0 0 0 3 true V3 (Kd.R_reads' HK.out.own).2.2 (Kd.R_reads' HK.out.own).2.1 kn12_3).mono ?_
 rintro e V4 ⟨rfl, hb⟩
 have HK := Aside0.mk (HK.out.more hb)
 clear hb
 go_wp2_with fail
 refine (redpencillaw12_at.calls 1 2 _ _ V4 rfl).mono ?_
 rintro e V5 ⟨rfl, hb⟩
 have HK := Aside0.mk (HK.out.more hb)
 clear hb
 go_wp2_with fail
 refine (redpencillaw12_of.calls  (some ⟨g, 0, none⟩) c GLi 1 2 2 0 true V5 (Kd.R_reads' HK.out.own).2.2 (Kd.R_reads' HK.out.own).2.1 kn12_4).mono ?_
 rintro e V6 ⟨rfl, hb⟩
 have HK := Aside0.mk (HK.out.more hb)
 clear hb
 go_wp2_with fail
 refine (redpencillaw12_at.calls 2 2 _ _ V6 rfl).mono ?_
 rintro e V7 ⟨rfl, hb⟩
 have HK := Aside0.mk (HK.out.more hb)
 clear hb
 go_wp2_with fail
 refine (redpencillaw12_of.calls  (some ⟨g, 0, none⟩) c GLi 2 2 0 9 true V7 (Kd.R_reads' HK.out.own).2.2 (Kd.R_reads' HK.out.own).2.1 kn12_5).mono ?_
 rintro e V8 ⟨rfl, hb⟩
 have HK := Aside0.mk (HK.out.more hb)
 clear hb
 go_wp2_with fail
 refine (redpencillaw12_at.calls 3 4 _ _ V8 rfl).mono ?_
 rintro e V9 ⟨rfl, hb⟩
 have HK := Aside0.mk (HK.out.more hb)
 clear hb
 go_wp2_with fail
 refine (redpencillaw12_of.calls  (some ⟨g, 0, none⟩) c GLi 3 4 0 9 true V9 (Kd.R_reads' HK.out.own).2.2 (Kd.R_reads' HK.out.own).2.1 kn12_6).mono ?_
 rintro e V10 ⟨rfl, hb⟩
 have HK := Aside0.mk (HK.out.more hb)
 clear hb
 obtain ⟨y0, y1⟩ := HK.out.x0
 go_wp2_with fail
 clear y0 y1
 refine (redpencillaw12_of.calls  (some ⟨g, 0, none⟩) c GLi 0 0 0 2 true V10 (Kd.R_reads' HK.out.own).2.2 (Kd.R_reads' HK.out.own).2.1 kn12_7).mono ?_
 rintro e V11 ⟨rfl, hb⟩
 have HK := Aside0.mk (HK.out.more hb)
 clear hb
 go_wp2_with fail
 refine (redpencillaw12_at.calls 2 2 _ _ V11 rfl).mono ?_
 rintro e V12 ⟨rfl, hb⟩
 have HK := Aside0.mk (HK.out.more hb)
 clear hb
 go_wp2_with fail
 refine (redpencillaw12_before.calls  (some ⟨g, 0, none⟩) c GLi 2 2 2 0 true V12 (Kd.R_reads' HK.out.own).2.2 (Kd.R_reads' HK.out.own).2.1 kn12_8).mono ?_
 rintro e V13 ⟨rfl, hb⟩
 have HK := Aside0.mk (HK.out.more hb)
 clear hb
 go_wp2_with fail
 refine (redpencillaw12_at.calls 2 3 _ _ V13 rfl).mono ?_
 rintro e V14 ⟨rfl, hb⟩
 have HK := Aside0.mk (HK.out.more hb)
 clear hb
 go_wp2_with fail
 refine (redpencillaw12_before.calls  (some ⟨g, 0, none⟩) c GLi 2 3 3 0 true V14 (Kd.R_reads' HK.out.own).2.2 (Kd.R_reads' HK.out.own).2.1 kn12_9).mono ?_
 rintro e V15 ⟨rfl, hb⟩
 have HK := Aside0.mk (HK.out.more hb)
 clear hb
 go_wp2_with fail
 refine (redpencillaw12_at.calls 3 4 _ _ V15 rfl).mono ?_
 rintro e V16 ⟨rfl, hb⟩
 have HK := Aside0.mk (HK.out.more hb)
 clear hb
 go_wp2_with fail
 refine (redpencillaw12_before.calls  (some ⟨g, 0, none⟩) c GLi 3 4 0 9 true V16 (Kd.R_reads' HK.out.own).2.2 (Kd.R_reads' HK.out.own).2.1 kn12_10).mono ?_
 rintro e V17 ⟨rfl, hb⟩
 have HK := Aside0.mk (HK.out.more hb)
 clear hb
 obtain ⟨y0, y1⟩ := HK.out.x0
 go_wp2_with fail
 clear y0 y1
 refine (redpencillaw12_left.calls 60 (some ⟨g, 0, none⟩) c GLi 0 0 0 0 true V17 (Kd.R_reads' HK.out.own).2.2 (Kd.R_reads' HK.out.own).2.1 kn12_11).mono ?_
 rintro e V18 ⟨rfl, hb⟩
 have HK := Aside0.mk (HK.out.more hb)
 clear hb
 go_wp2_with fail
 refine (redpencillaw12_at.calls 2 3 _ _ V18 rfl).mono ?_
 rintro e V19 ⟨rfl, hb⟩
 have HK := Aside0.mk (HK.out.more hb)
 clear hb
 go_wp2_with fail
 refine (redpencillaw12_left.calls 60 (some ⟨g, 0, none⟩) c GLi 4 2 3 0 true V19 (Kd.R_reads' HK.out.own).2.2 (Kd.R_reads' HK.out.own).2.1 kn12_12).mono ?_
 rintro e V20 ⟨rfl, hb⟩
 have HK := Aside0.mk (HK.out.more hb)
 clear hb
 obtain ⟨y0, y1⟩ := HK.out.x0
 go_wp2_with fail
 clear y0 y1
 refine (redpencillaw12_left.calls 60 (some ⟨g, 0, none⟩) c GLi 5 0 0 3 true V20 (Kd.R_reads' HK.out.own).2.2 (Kd.R_reads' HK.out.own).2.1 kn12_13).mono ?_
 rintro e V21 ⟨rfl, hb⟩
 have HK := Aside0.mk (HK.out.more hb)
 clear hb
 go_wp2_with fail
 refine (redpencillaw12_at.calls 1 1 _ _ V21 rfl).mono ?_
 rintro e V22 ⟨rfl, hb⟩
 have HK := Aside0.mk (HK.out.more hb)
 clear hb
 go_wp2_with fail
 refine (redpencillaw12_at.calls 1 2 _ _ V22 rfl).mono ?_
 rintro e V23 ⟨rfl, hb⟩
 have HK := Aside0.mk (HK.out.more hb)
 clear hb
 go_wp2_with fail
 refine (redpencillaw12_dots.calls 60 (some ⟨g, 0, none⟩) c GLi 1 3 (some ⟨V23.heap.size, 0, none⟩) 2 [⟨1, 1⟩, ⟨1, 2⟩] 0 true (V23.alloc (.cells #[.int .i64 1, .int .i64 1, .int .i64 1, .int .i64 2] 24 (0, 0))) (Kd.R_reads' (own_more HK.out.own (below_alloc (Below.refl _ V23) (.cells #[.int .i64 1, .int .i64 1, .int .i64 1, .int .i64 2] 24 (0, 0))))).2.2 (Kd.R_reads' (own_more HK.out.own (below_alloc (Below.refl _ V23) (.cells #[.int .i64 1, .int .i64 1, .int .i64 1, .int .i64 2] 24 (0, 0))))).2.1 (lit_dotsC V23 _ rfl [⟨1, 1⟩, ⟨1, 2⟩] #[.int .i64 1, .int .i64 1, .int .i64 1, .int .i64 2] rfl (by decide)) (Nat.le_refl _) kn12_14).mono ?_
 rintro e V24 ⟨rfl, hb⟩
 have HK := Aside0.mk (HK.out.more (below_more (below_alloc (Below.refl _ V23) _) hb))
 clear hb
 go_wp2_with fail
 refine (redpencillaw12_dots.calls 60 (some ⟨g, 0, none⟩) c GLi 4 4 none 0 [] 0 true V24 (Kd.R_reads' HK.out.own).2.2 (Kd.R_reads' HK.out.own).2.1 nilDD (Nat.le_refl _) kn12_15).mono ?_
 rintro e V25 ⟨rfl, hb⟩
 have HK := Aside0.mk (HK.out.more hb)
 clear hb
 go_wp2_with fail
 refine (redpencillaw12_dots.calls 60 (some ⟨g, 0, none⟩) c GLi 3 2 none 0 [] 3 true V25 (Kd.R_reads' HK.out.own).2.2 (Kd.R_reads' HK.out.own).2.1 nilDD (Nat.le_refl _) kn12_16).mono ?_
 rintro e V26 ⟨rfl, hb⟩
 have HK := Aside0.mk (HK.out.more hb)
 clear hb
 go_wp2_with fail
 refine (redpencillaw12_texts.calls 60 none 0 [] ⟨#[]⟩ 0 true V26 nilN (Nat.le_refl _) kn12_17).mono ?_
 rintro e V27 ⟨rfl, hb⟩
 have HK := Aside0.mk (HK.out.more hb)
 clear hb
 obtain ⟨y0, y1⟩ := HK.out.x0
 go_wp2_with fail
 clear y0 y1
 refine (redpencillaw12_left.calls 60 none 0 [] 0 0 0 0 true V27 nilN (Nat.le_refl _) kn12_18).mono ?_
 rintro e V28 ⟨rfl, hb⟩
 have HK := Aside0.mk (HK.out.more hb)
 clear hb
 go_wp2
 go_ret
 exact ⟨rfl, HK.out.below⟩
end Go.Proofs.YtjlpaagnajmogaaGreat.PWalk
end
section
namespace Go.QuietRound
variable {F : Fence} {n : Nat} {P : Program} {ops : Array Oper} {C : World → Prop} {md : Region.Mode}
def calm (o : Oper) : Bool := match o.op with | .defer _ => false | _ => true
theorem wpIn_op {o : Oper} {a : Act} {K : Act → Prop} {K' : Act → World → Prop} {Q' : Exit → Act → World → Prop} {w : World} {l : Nat} (hro : F.round = some l) (hd : calm o = true) (hw : C w) (h : ∀ a w', C w' → K a → K' a w')
  (ha : o.askedIn F P a C) (hh : o.quietIn F n P a C K) : o.wpIn F n P a w K' Q' := by
 obtain ⟨v, h1, h2⟩ := hh
 have h3 := h1 w hw
 refine ⟨ha w hw, ?_⟩
 rw [hro, Oper.semAt_some l _ _ (fun c e => by unfold calm at hd; rw [e] at hd; cases hd)]
 unfold Oper.quietAtIn at h3
 rcases hr : (execOp a.eval o).run P w with ⟨x, w'⟩ | ⟨x, w'⟩
 ·
  rw [hr] at h3
  cases x with
  | value u => obtain ⟨e1, e2⟩ := h3; subst e1 e2; exact h _ _ hw h2
  | skip => obtain ⟨e1, e2⟩ := h3; subst e1 e2; exact h _ _ hw h2
  | enter f args =>
   obtain ⟨e1, hd, hc⟩ := h3
   subst e1
   exact ⟨hd, hc.mono fun e w'' ⟨he, hw''⟩ => by subst he; exact h _ _ hw'' h2⟩
  | _ => exact h3.elim
 ·
  rw [hr] at h3; exact h3.elim
theorem wpOp {i : Nat} {a : Act} {K : Act → Prop} {K' : Act → World → Prop} {Q' : Exit → Act → World → Prop} {w : World} {l : Nat} (hro : F.round = some l) (hd : ∀ (i : Nat) (o : Oper), ops[i]? = some o → calm o = true) (hC : C w) (h : ∀ a w', C w' → K a → K' a w')
  (hh : qOpIn F n P ops C i K a) : wpOpIn F n P ops Q' i K' a w := by
 unfold qOpIn at hh
 unfold wpOpIn
 rcases ho : ops[i]? with _ | o
 ·
  rw [ho] at hh; exact h _ _ hC hh
 ·
  rw [ho] at hh
  obtain ⟨ha, hh⟩ := hh
  by_cases hw : Region.wanted o (yielded ops a.tmps) = true
  ·
   simp only [hw, if_true] at hh ⊢; exact wpIn_op hro (hd i o ho) hC h ha hh
  ·
   simp only [hw] at hh ⊢; exact ⟨ha w hC, h _ _ hC hh⟩
end Go.QuietRound
end
section
namespace Go.Proofs.YtjlpaagnajmogaaGreat.PWalk
open Go.RowKit Go.Proofs.YtjlpaagnajmogaaGreatW.PrintWords Go.Proofs.YtjlpaagnajmogaaGreatW.PrintLast Go.Proofs.YtjlpaagnajmogaaGreatW.PrintMore
set_option linter.unusedVariables false
set_option linter.unusedSimpArgs false
open Go.Shelf
attribute [local go_sem] Oper.semAt_some
def cutN (x : Node) : List Node → Nat
 | [] => 0
 | y :: r => if nodeLt y x then cutN x r + 1 else 0
theorem insB_cut (x : Node) : ∀ l, insB x l = l.take (cutN x l) ++ x :: l.drop (cutN x l)
 | [] => rfl
 | y :: r => by
  rw [insB, cutN]
  split
  ·
   rw [List.take_succ_cons, List.drop_succ_cons, List.cons_append, ← insB_cut x r]
  ·
   rfl
theorem cutN_is {x : Node} : ∀ {l : List Node} {k : Nat}, k ≤ l.length → (∀ j y, j < k → l[j]? = some y → nodeLt y x = true) → (∀ y, l[k]? = some y → nodeLt y x = false) → cutN x l = k
 | [], k, hk, _, _ => by simp at hk; subst hk; rfl
 | y :: r, 0, _, _, h => by rw [cutN, if_neg (by rw [h y rfl]; simp)]
 | y :: r, k + 1, hk, h1, h2 => by
  rw [cutN, if_pos (h1 0 y (by omega) rfl), cutN_is (k := k) (by simpa using hk) (fun j z hj hz => h1 (j + 1) z (by omega) (by simpa using hz)) (fun z hz => h2 z (by simpa using hz))]
theorem kids_take_succ {l : List Node} {d : Dot} {i : Nat} {x : Node} (h : l[i]? = some x) : kids (l.take (i + 1)) d = if x.f1 = d then insB x (kids (l.take i) d) else kids (l.take i) d := by
 unfold kids
 rw [List.take_succ_eq_append_getElem (List.getElem?_eq_some_iff.1 h).1, (List.getElem?_eq_some_iff.1 h).2, List.filter_append, List.foldl_append]
 by_cases e : x.f1 = d <;> simp [e]
theorem kids_le (l : List Node) (d : Dot) : (kids l d).length ≤ l.length := by
 rw [(kids_perm l d).length_eq]; exact List.length_filter_le _ _
/-- All below a dot that is reached, without depths. -/
def belowL (l : List Node) (d : Dot) : List Node := nds (belowOf l 0 d)
theorem belowN_nds (l : List Node) : ∀ (n dep dep' : Nat) (d : Dot), nds (belowN l n dep d) = nds (belowN l n dep' d)
 | 0, _, _, _ => rfl
 | n + 1, dep, dep', d => by
  unfold nds
  rw [belowN, belowN, List.map_flatMap, List.map_flatMap]
  refine flatMap_same fun x _ => ?_
  have := belowN_nds l n (dep + 1) (dep' + 1) x.f0
  unfold nds at this
  rw [List.map_cons, List.map_cons, this]
theorem belowL_kids {l : List Node} (hs : Store l) {d : Dot} {U : List Node} (h : Path l d U) : belowL l d = (kids l d).flatMap fun x => x :: belowL l x.f0 := by
 unfold belowL
 rw [belowOf_kids hs h 0]
 unfold nds
 rw [List.map_flatMap]
 refine flatMap_same fun x _ => ?_
 have := belowN_nds l (l.length + 1) 1 0 x.f0
 unfold nds at this
 unfold belowOf
 rw [List.map_cons, this]
attribute [local go_sem high] eqA35 eqA24
end Go.Proofs.YtjlpaagnajmogaaGreat.PWalk
end
section
namespace Go.Proofs.YtjlpaagnajmogaaGreat.PWalk
end Go.Proofs.YtjlpaagnajmogaaGreat.PWalk
end
