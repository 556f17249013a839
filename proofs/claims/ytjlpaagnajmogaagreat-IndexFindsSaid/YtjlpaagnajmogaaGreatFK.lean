/-
  The law IndexFinds: what index.At, index.Of and index.Before answer for any nodes, any index and any dot. Part 11 of 11.
-/
import Derived.Test.YtjlpaagnajmogaaGreatFJ
import Derived.Test.YtjlpaagnajmogaaGreatRows
import Derived.WalkKit
import Derived.ProofKit
import Derived.OpenShut
import Derived.ShutString
import Derived.ChangeOld
import Derived.Below
import Derived.SizedLaws
import Derived.Deep.DeepHandedRow
import Derived.Deep.Slices
import Derived.Lib.SmallJoins
section
namespace Go.Proofs.YtjlpaagnajmogaaGreat.PWalk
open Go.RowKit Go.Proofs.YtjlpaagnajmogaaGreatW.PrintWords Go.Proofs.YtjlpaagnajmogaaGreatW.PrintLast Go.Proofs.YtjlpaagnajmogaaGreatW.PrintMore
set_option linter.unusedVariables false
set_option linter.unusedSimpArgs false
mutual
def redpencillaw12_IndexFinds.j0 : Nat → List (S35) → Int → List (S35) → Bool → Int → Int → Option (Bool)
 | 0, _, _, _, _, _, _ => none
 | k + 1, x0, x1, x7, x43, x499000, x499001 => if x43 = true then ((redpencillaw12_sees.f k x0 x1 0 0 0 0 0 0 3).bind fun t508 => (if t508 = true then (redpencillaw12_IndexFinds.j1 k x0 x499000 x499001) else (some false))) else (if 0 ≤ x1 then (if x1 < (x7.length : Int) then ((redpencillaw12_sees.f k x0 x1 ((rd_T35 x7 x1).f0.f0) ((rd_T35 x7 x1).f0.f1) ((rd_T35 x7 x1).f1.f0) ((rd_T35 x7 x1).f1.f1) ((rd_T35 x7 x1).f2) ((rd_T35 x7 x1).f3) 0).bind fun t510 => (if t510 = true then (redpencillaw12_IndexFinds.j1 k x0 x499000 x499001) else (some false))) else (none)) else (none))
def redpencillaw12_IndexFinds.j1 : Nat → List (S35) → Int → Int → Option (Bool)
 | 0, _, _, _ => none
 | k + 1, x0, x499000, x499001 => (redpencilref04_Valid.f x499000 x499001).bind fun t511 => (if t511 = true then ((redpencilref12_Of.f k x0 x499000 x499001).bind fun t515 => (if t515 < 0 then ((redpencillaw12_of.f x0 x499000 x499001 0 9).bind fun t516 => (if t516 = true then (if t515 ≥ 0 then ((redpencillaw12_of.f x0 x499000 x499001 t515 0).bind fun t517 => (redpencillaw12_IndexFinds.j2 k x0 (!t517) x499000 x499001)) else (redpencillaw12_IndexFinds.j2 k x0 false x499000 x499001)) else (redpencillaw12_IndexFinds.j2 k x0 true x499000 x499001))) else (if t515 ≥ 0 then ((redpencillaw12_of.f x0 x499000 x499001 t515 0).bind fun t518 => (redpencillaw12_IndexFinds.j2 k x0 (!t518) x499000 x499001)) else (redpencillaw12_IndexFinds.j2 k x0 false x499000 x499001)))) else ((redpencillaw12_of.f x0 x499000 x499001 0 2).bind fun t512 => (if t512 = true then ((redpencillaw12_before.f x0 x499000 x499001 0 2).bind fun t513 => (if t513 = true then ((redpencillaw12_known.f).bind fun t514 => (some t514)) else (some false))) else (some false))))
def redpencillaw12_IndexFinds.j2 : Nat → List (S35) → Bool → Int → Int → Option (Bool)
 | 0, _, _, _, _ => none
 | k + 1, x0, x92, x499000, x499001 => if x92 = true then (some false) else ((redpencilref12_Before.f k x0 x499000 x499001).bind fun t519 => (if t519 < 0 then ((redpencillaw12_before.f x0 x499000 x499001 0 9).bind fun t520 => (if t520 = true then (if t519 ≥ 0 then ((redpencillaw12_before.f x0 x499000 x499001 t519 0).bind fun t521 => (if t521 = true then ((redpencillaw12_known.f).bind fun t522 => (some t522)) else (some false))) else ((redpencillaw12_known.f).bind fun t523 => (some t523))) else (some false))) else (if t519 ≥ 0 then ((redpencillaw12_before.f x0 x499000 x499001 t519 0).bind fun t524 => (if t524 = true then ((redpencillaw12_known.f).bind fun t525 => (some t525)) else (some false))) else ((redpencillaw12_known.f).bind fun t526 => (some t526)))))
end
def redpencillaw12_IndexFinds.f (k : Nat) (l0 : List (S35)) (a1 : Int) (a2_0 : Int) (a2_1 : Int) : Option (Bool) := if (l0.length : Int) > 40 then ((redpencillaw12_known.f).bind fun t499 => (some t499)) else ((redpencilref10_Valid.f k l0).bind fun t500 => (if t500 = true then ((redpencilref12_Visible.f k l0).bind fun t505 => (if a1 < 0 then (redpencillaw12_IndexFinds.j0 k l0 a1 t505 true a2_0 a2_1) else (redpencillaw12_IndexFinds.j0 k l0 a1 t505 (decide (a1 ≥ (t505.length : Int))) a2_0 a2_1))) else ((redpencillaw12_sees.f k l0 a1 0 0 0 0 0 0 2).bind fun t501 => (if t501 = true then ((redpencillaw12_of.f l0 a2_0 a2_1 0 2).bind fun t502 => (if t502 = true then ((redpencillaw12_before.f l0 a2_0 a2_1 0 2).bind fun t503 => (if t503 = true then ((redpencillaw12_known.f).bind fun t504 => (some t504)) else (some false))) else (some false))) else (some false)))))
set_option maxHeartbeats 8000000 in
set_option maxRecDepth 100000 in
theorem redpencillaw12_IndexFinds.calls (k : Nat) (A0 : Option Addr) (c0 : Nat) (l0 : List (S35)) (a1 : Int) (a2_0 : Int) (a2_1 : Int) (r : Bool) (w : World) (hr0 : Kd.C k35 w A0 l0.length l0) (hc0 : l0.length ≤ c0) (h : redpencillaw12_IndexFinds.f k l0 a1 a2_0 a2_1 = some r) :
  Calls Tryz.prog 8 #[.slice A0 l0.length c0, .int .i64 a1, .agg #[.int .i64 a2_0, .int .i64 a2_1]] w fun e w' => e = .returned (.bool r) ∧ Below w.heap.size w w' := by
 have hu24 := Tryz.underlying24
 have hu35 := Tryz.underlying35
 have HR0 := Aside0.mk hr0
 have HC0 := Aside0.mk hc0
 clear hr0 hc0
 have HB := Aside0.mk (Below.refl w.heap.size w)
 have H : (if (l0.length : Int) > 40 then ((redpencillaw12_known.f).bind fun t499 => (some t499)) else ((redpencilref10_Valid.f k l0).bind fun t500 => (if t500 = true then ((redpencilref12_Visible.f k l0).bind fun t505 => (if a1 < 0 then (redpencillaw12_IndexFinds.j0 k l0 a1 t505 true a2_0 a2_1) else (redpencillaw12_IndexFinds.j0 k l0 a1 t505 (decide (a1 ≥ (t505.length : Int))) a2_0 a2_1))) else ((redpencillaw12_sees.f k l0 a1 0 0 0 0 0 0 2).bind fun t501 => (if t501 = true then ((redpencillaw12_of.f l0 a2_0 a2_1 0 2).bind fun t502 => (if t502 = true then ((redpencillaw12_before.f l0 a2_0 a2_1 0 2).bind fun t503 => (if t503 = true then ((redpencillaw12_known.f).bind fun t504 => (some t504)) else (some false))) else (some false))) else (some false)))))) = some r := h
 clear h
 by_cases c4 : (l0.length : Int) > 40
 ·
  rw [if_pos c4] at H
  have c4b0 : decide (40 < (l0.length : Int)) = true := decide_eq_true c4
  have c4b1 : decide (40 < l0.length) = true := decide_eq_true (by omega)
  clear c4
  replace H := Option.bind_eq_some_iff.mp H
  obtain ⟨t499, A50, H⟩ := H
  replace H : (some t499) = some r := H
  have A5 := Aside0.mk A50
  clear A50
  obtain rfl := Option.some.inj H
  go_enter Tryz.func8, Tryz.ntmps8
  go_wp2_with (first | ((with_reducible refine gate_dst (N := 5) rfl ?_); (try (refine gate_guard (by rfl) ?_; dsimp only)); refine box_event ?hg (N := 5) ?hd (cs := #[.int .i64 a2_0, .int .i64 a2_1]) (t := 24) ?hr ?_; (case hd => rfl); (case hg => rfl); (case hr => first | (go_simp; done) | (go_simp; rfl)); intro gb498 hg w6 hbox hb; have n0_ := Aside0.mk (below_step (by repeat (first | (with_reducible first | exact HB.out | apply below_alloc | apply pw_below_drewN | apply below_drew1) | exact HB.out)) hb); have n1_ := Aside0.mk (hbox); have n2_ := Aside0.mk ((by rw [hg]; exact (below_size (by repeat (first | (with_reducible first | exact HB.out | apply below_alloc | apply pw_below_drewN | apply below_drew1) | exact HB.out))) : w.heap.size ≤ gb498)); have n3_ := Aside0.mk ((by rw [hg]; exact (below_size (by repeat (first | (with_reducible first | exact HB.out | apply below_alloc | apply pw_below_drewN | apply below_drew1) | exact HB.out))) : w.heap.size ≤ gb498)); clear HB; have HB := n0_; have BK498 := n1_; have GW498 := n2_; have GE498 := n3_; clear n0_ n1_ n2_ n3_; clear hb hbox hg) | ((with_reducible refine gate_callee (f := 34) rfl ?_); refine goesL_ (some 13) rfl rfl Tryz.func34 (by kernel_rfl) rfl #[] rfl (by (try simp only [List.map_toArray, List.map_cons, List.map_nil]); first | done | rfl | (simp only [List.length_drop, List.length_take]; rfl)) ?_; (with_reducible refine (redpencillaw12_known.calls  t499 _ A5.out).mono ?_); rintro e w7 ⟨rfl, hb⟩; refine ⟨_, rfl, ?_⟩; have n0_ := Aside0.mk (blk_below (g := gb498) (o := .cells #[.int .i64 a2_0, .int .i64 a2_1] 24 (0, 0)) (by (with_reducible repeat (first | refine blk_drewN ?_ _ | refine blk_drew ?_ | refine blk_alloc ?_ _)); exact BK498.out) hb); have n1_ := Aside0.mk (below_step (by repeat (first | (with_reducible first | exact HB.out | apply below_alloc | apply pw_below_drewN | apply below_drew1 | refine below_set ?_ GE498.out) | exact HB.out)) hb); clear BK498; clear HB; have BK498 := n0_; have HB := n1_; clear n0_ n1_; (try clear hb); (try clear hb2); (try clear hk); (try clear hi)))
  go_ret
  exact ⟨by first | rfl | (simp [errW_none, errW_some] <;> rfl) | (simp [*, errW_none, errW_some] <;> rfl), by repeat (first | (with_reducible first | exact HB.out | apply below_alloc | apply pw_below_drewN | apply below_drew1 | refine below_set ?_ GE498.out) | exact HB.out)⟩
 ·
  rw [if_neg c4] at H
  have c4b0 : decide (40 < (l0.length : Int)) = false := decide_eq_false c4
  have c4b1 : decide (40 < l0.length) = false := decide_eq_false (by omega)
  clear c4
  replace H := Option.bind_eq_some_iff.mp H
  obtain ⟨t500, A80, H⟩ := H
  replace H : (if t500 = true then ((redpencilref12_Visible.f k l0).bind fun t505 => (if a1 < 0 then (redpencillaw12_IndexFinds.j0 k l0 a1 t505 true a2_0 a2_1) else (redpencillaw12_IndexFinds.j0 k l0 a1 t505 (decide (a1 ≥ (t505.length : Int))) a2_0 a2_1))) else ((redpencillaw12_sees.f k l0 a1 0 0 0 0 0 0 2).bind fun t501 => (if t501 = true then ((redpencillaw12_of.f l0 a2_0 a2_1 0 2).bind fun t502 => (if t502 = true then ((redpencillaw12_before.f l0 a2_0 a2_1 0 2).bind fun t503 => (if t503 = true then ((redpencillaw12_known.f).bind fun t504 => (some t504)) else (some false))) else (some false))) else (some false)))) = some r := H
  have A8 := Aside0.mk A80
  clear A80
  by_cases c9 : t500 = true
  ·
   subst c9
   have H1 : ((redpencilref12_Visible.f k l0).bind fun t505 => (if a1 < 0 then (redpencillaw12_IndexFinds.j0 k l0 a1 t505 true a2_0 a2_1) else (redpencillaw12_IndexFinds.j0 k l0 a1 t505 (decide (a1 ≥ (t505.length : Int))) a2_0 a2_1))) = some r := by rw [if_pos rfl] at H; exact H
   clear H
   have H := H1
   clear H1
   replace H := Option.bind_eq_some_iff.mp H
   obtain ⟨t505, A100, H⟩ := H
   replace H : (if a1 < 0 then (redpencillaw12_IndexFinds.j0 k l0 a1 t505 true a2_0 a2_1) else (redpencillaw12_IndexFinds.j0 k l0 a1 t505 (decide (a1 ≥ (t505.length : Int))) a2_0 a2_1)) = some r := H
   have A10 := Aside0.mk A100
   clear A100
   have HC11 := Aside0.mk H
   clear H
   go_enter Tryz.func8, Tryz.ntmps8
   go_upto_region 6 with (first | ((with_reducible refine gate_dst (N := 5) rfl ?_); (try (refine gate_guard (by rfl) ?_; dsimp only)); refine box_event ?hg (N := 5) ?hd (cs := #[.int .i64 a2_0, .int .i64 a2_1]) (t := 24) ?hr ?_; (case hd => rfl); (case hg => rfl); (case hr => first | (go_simp; done) | (go_simp; rfl)); intro gb498 hg w12 hbox hb; have n0_ := Aside0.mk (below_step (by repeat (first | (with_reducible first | exact HB.out | apply below_alloc | apply pw_below_drewN | apply below_drew1) | exact HB.out)) hb); have n1_ := Aside0.mk (hbox); have n2_ := Aside0.mk ((by rw [hg]; exact (below_size (by repeat (first | (with_reducible first | exact HB.out | apply below_alloc | apply pw_below_drewN | apply below_drew1) | exact HB.out))) : w.heap.size ≤ gb498)); have n3_ := Aside0.mk ((by rw [hg]; exact (below_size (by repeat (first | (with_reducible first | exact HB.out | apply below_alloc | apply pw_below_drewN | apply below_drew1) | exact HB.out))) : w.heap.size ≤ gb498)); clear HB; have HB := n0_; have BK498 := n1_; have GW498 := n2_; have GE498 := n3_; clear n0_ n1_ n2_ n3_; clear hb hbox hg) | ((with_reducible refine gate_callee (f := 14) rfl ?_); refine goesL_ (some 15) rfl rfl Tryz.func14 (by kernel_rfl) rfl #[.slice A0 l0.length c0] rfl (by (try simp only [List.map_toArray, List.map_cons, List.map_nil]); first | done | rfl | (simp only [List.length_drop, List.length_take]; rfl)) ?_; (with_reducible refine (redpencilref10_Valid.calls k _ _ l0 true _ ?side1 ?side2 A8.out).mono ?_); (case side1 => repeat (first | exact (Kd.C_below HR0.out HB.out) | (with_reducible refine Kd.C_alloc ?_ _) | (with_reducible refine Kd.C_drewN ?_ _) | (with_reducible refine Kd.C_drew ?_))); (case side2 => exact HC0.out); rintro e w13 ⟨rfl, hb⟩; refine ⟨_, rfl, ?_⟩; have n0_ := Aside0.mk (blk_below (g := gb498) (o := .cells #[.int .i64 a2_0, .int .i64 a2_1] 24 (0, 0)) (by (with_reducible repeat (first | refine blk_drewN ?_ _ | refine blk_drew ?_ | refine blk_alloc ?_ _)); exact BK498.out) hb); have n1_ := Aside0.mk (below_step (by repeat (first | (with_reducible first | exact HB.out | apply below_alloc | apply pw_below_drewN | apply below_drew1 | refine below_set ?_ GE498.out) | exact HB.out)) hb); clear BK498; clear HB; have BK498 := n0_; have HB := n1_; clear n0_ n1_; (try clear hb); (try clear hb2); (try clear hk); (try clear hi)) | ((with_reducible refine gate_callee (f := 43) rfl ?_); refine goesL_ (some 35) rfl rfl Tryz.func43 (by kernel_rfl) rfl #[.slice A0 l0.length c0] rfl (by (try simp only [List.map_toArray, List.map_cons, List.map_nil]); first | done | rfl | (simp only [List.length_drop, List.length_take]; rfl)) ?_; (with_reducible refine (redpencilref12_Visible.calls k _ _ l0 t505 _ ?side1 ?side2 A10.out).mono ?_); (case side1 => repeat (first | exact (Kd.C_below HR0.out HB.out) | (with_reducible refine Kd.C_alloc ?_ _) | (with_reducible refine Kd.C_drewN ?_ _) | (with_reducible refine Kd.C_drew ?_))); (case side2 => exact HC0.out); rintro e w14 ⟨v506, rfl, ho0, hb⟩; refine ⟨_, rfl, ?_⟩; have n0_ := Aside0.mk (Kd.R_lower ho0 (below_size (by repeat (first | (with_reducible first | exact HB.out | apply below_alloc | apply pw_below_drewN | apply below_drew1 | refine below_set ?_ GE498.out) | exact HB.out)))); have n1_ := Aside0.mk (blk_below (g := gb498) (o := .cells #[.int .i64 a2_0, .int .i64 a2_1] 24 (0, 0)) (by (with_reducible repeat (first | refine blk_drewN ?_ _ | refine blk_drew ?_ | refine blk_alloc ?_ _)); exact BK498.out) hb); have n2_ := Aside0.mk (below_step (by repeat (first | (with_reducible first | exact HB.out | apply below_alloc | apply pw_below_drewN | apply below_drew1 | refine below_set ?_ GE498.out) | exact HB.out)) hb); clear BK498; clear HB; have HO507 := n0_; have BK498 := n1_; have HB := n2_; clear n0_ n1_ n2_; (try clear hb); (try clear hb2); (try clear hk); (try clear hi); (try clear ho0)))
   (try simp only [Act.put, List.setIfInBounds_toArray, List.set_cons_zero, List.set_cons_succ])
   go_cut [43] (fun v43 wc => ∃ (kq : Nat) (x43_10 : Bool), v43 = .bool x43_10 ∧ Aside0 (redpencillaw12_IndexFinds.j0 kq l0 a1 t505 x43_10 a2_0 a2_1 = some r) ∧ Aside0 (kq ≤ k) ∧ Aside0 (Kd.R k35 35 wc w.heap.size (fun _ => True) v506 t505) ∧ Aside0 (wc.heap[gb498]? = some (.cells #[.int .i64 a2_0, .int .i64 a2_1] 24 (0, 0))) ∧ Aside0 (Below w.heap.size w wc))
   case first =>
    have H := HC11.out
    clear HC11
    by_cases c15 : a1 < 0
    ·
     rw [if_pos c15] at H
     have c15b0 : decide (a1 < 0) = true := decide_eq_true c15
     clear c15
     (first | rw [c15b0] | (simp only [i64_w, i32_w]; rw [c15b0]) | rw [c15b1] | skip)
     have H' := Aside0.mk H
     clear H
     go_wp2
     go_meet
     case rel => exact ⟨_, (true), (by first | rfl | (simp; done) | (simp [*]; done)), H', ⟨by first | omega | exact Nat.le_refl _⟩, ⟨by (with_reducible repeat (first | apply Kd.R_alloc | apply Kd.R_drewN | apply Kd.R_drew)); exact HO507.out⟩, ⟨by (with_reducible repeat (first | refine blk_drewN ?_ _ | refine blk_drew ?_ | refine blk_alloc ?_ _)); exact BK498.out⟩, ⟨by repeat (first | (with_reducible first | exact HB.out | apply below_alloc | apply pw_below_drewN | apply below_drew1 | refine below_set ?_ GE498.out) | exact HB.out)⟩⟩
    ·
     rw [if_neg c15] at H
     have c15b0 : decide (a1 < 0) = false := decide_eq_false c15
     clear c15
     (first | rw [c15b0] | (simp only [i64_w, i32_w]; rw [c15b0]) | rw [c15b1] | skip)
     have H' := Aside0.mk H
     clear H
     obtain ⟨Ao16, co16, eo16⟩ := Kd.R_slice HO507.out
     subst eo16
     go_wp2
     go_meet
     case rel => exact ⟨_, (decide (a1 ≥ (t505.length : Int))), (by first | rfl | (simp; done) | (simp [*]; done)), H', ⟨by first | omega | exact Nat.le_refl _⟩, ⟨by (with_reducible repeat (first | apply Kd.R_alloc | apply Kd.R_drewN | apply Kd.R_drew)); exact HO507.out⟩, ⟨by (with_reducible repeat (first | refine blk_drewN ?_ _ | refine blk_drew ?_ | refine blk_alloc ?_ _)); exact BK498.out⟩, ⟨by repeat (first | (with_reducible first | exact HB.out | apply below_alloc | apply pw_below_drewN | apply below_drew1 | refine below_set ?_ GE498.out) | exact HB.out)⟩⟩
   case rest =>
    clear HC11
    try clear c1
    try clear p2
    try clear c3
    try clear c4
    try clear c4b0
    try clear c4b1
    try clear c8
    try clear c9
    try clear c14
    try clear c15
    try clear c15b0
    obtain ⟨kq, x43_10, rfl, HA, HJ10, HO_7, BK498, HB⟩ := hcut
    cases kq with
    | zero => exact absurd HA.out (by simp [redpencillaw12_IndexFinds.j0])
    | succ kj10 =>
     have H := HA.out
     clear HA
     simp only [redpencillaw12_IndexFinds.j0] at H
     have HC17 := Aside0.mk H
     clear H
     go_upto_if 43 with (fail)
     go_cut [] (fun wc => ∃ (kq : Nat), Aside0 (redpencillaw12_IndexFinds.j1 kq l0 a2_0 a2_1 = some r) ∧ Aside0 (kq ≤ kj10) ∧ Aside0 (wc.heap[gb498]? = some (.cells #[.int .i64 a2_0, .int .i64 a2_1] 24 (0, 0))) ∧ Aside0 (Below w.heap.size w wc))
     case first =>
      have H := HC17.out
      clear HC17
      by_cases c18 : x43_10 = true
      ·
       subst c18
       have H1 : ((redpencillaw12_sees.f kj10 l0 a1 0 0 0 0 0 0 3).bind fun t508 => (if t508 = true then (redpencillaw12_IndexFinds.j1 kj10 l0 a2_0 a2_1) else (some false))) = some r := by rw [if_pos rfl] at H; exact H
       clear H
       have H := H1
       clear H1
       replace H := Option.bind_eq_some_iff.mp H
       obtain ⟨t508, A190, H⟩ := H
       replace H : (if t508 = true then (redpencillaw12_IndexFinds.j1 kj10 l0 a2_0 a2_1) else (some false)) = some r := H
       have A19 := Aside0.mk A190
       clear A190
       by_cases c20 : t508 = true
       ·
        subst c20
        have H1 : (redpencillaw12_IndexFinds.j1 kj10 l0 a2_0 a2_1) = some r := by rw [if_pos rfl] at H; exact H
        clear H
        have H := H1
        clear H1
        have H' := Aside0.mk H
        clear H
        go_wp2_with (first | ((with_reducible refine gate_callee (f := 40) rfl ?_); refine goesL_ (some 47) rfl rfl Tryz.func40 (by kernel_rfl) rfl #[.slice A0 l0.length c0, .int .i64 a1, .agg #[.int .i64 0, .int .i64 0, .int .i64 0, .int .i64 0, .int .i64 0, .int .i32 0], .int .i64 3] rfl (by (try simp only [List.map_toArray, List.map_cons, List.map_nil]); first | done | rfl | (simp only [List.length_drop, List.length_take]; rfl)) ?_; (with_reducible refine (redpencillaw12_sees.calls kj10 _ _ l0 a1 0 0 0 0 0 0 3 true _ ?side1 ?side2 A19.out).mono ?_); (case side1 => repeat (first | exact (Kd.C_below HR0.out HB.out) | (with_reducible refine Kd.C_alloc ?_ _) | (with_reducible refine Kd.C_drewN ?_ _) | (with_reducible refine Kd.C_drew ?_))); (case side2 => exact HC0.out); rintro e w21 ⟨rfl, hb⟩; refine ⟨_, rfl, ?_⟩; have n0_ := Aside0.mk (Kd.R_below (by (with_reducible repeat (first | apply Kd.R_alloc | apply Kd.R_drewN | apply Kd.R_drew)); exact HO_7.out) hb); have n1_ := Aside0.mk (blk_below (g := gb498) (o := .cells #[.int .i64 a2_0, .int .i64 a2_1] 24 (0, 0)) (by (with_reducible repeat (first | refine blk_drewN ?_ _ | refine blk_drew ?_ | refine blk_alloc ?_ _)); exact BK498.out) hb); have n2_ := Aside0.mk (below_step (by repeat (first | (with_reducible first | exact HB.out | apply below_alloc | apply pw_below_drewN | apply below_drew1 | refine below_set ?_ GE498.out) | exact HB.out)) hb); clear HO_7; clear BK498; clear HB; have HO_7 := n0_; have BK498 := n1_; have HB := n2_; clear n0_ n1_ n2_; (try clear hb); (try clear hb2); (try clear hk); (try clear hi)))
        go_meet
        case rel => exact ⟨_, H', ⟨by have := HJ10.out; first | omega | exact Nat.le_refl _⟩, ⟨by (with_reducible repeat (first | refine blk_drewN ?_ _ | refine blk_drew ?_ | refine blk_alloc ?_ _)); exact BK498.out⟩, ⟨by repeat (first | (with_reducible first | exact HB.out | apply below_alloc | apply pw_below_drewN | apply below_drew1 | refine below_set ?_ GE498.out) | exact HB.out)⟩⟩
       ·
        replace c20 := Bool.eq_false_iff.mpr c20
        subst c20
        have H1 : (some false) = some r := by rw [if_neg (show ¬ (false = true) by decide)] at H; exact H
        clear H
        have H := H1
        clear H1
        obtain rfl := Option.some.inj H
        go_wp2_with (first | ((with_reducible refine gate_callee (f := 40) rfl ?_); refine goesL_ (some 47) rfl rfl Tryz.func40 (by kernel_rfl) rfl #[.slice A0 l0.length c0, .int .i64 a1, .agg #[.int .i64 0, .int .i64 0, .int .i64 0, .int .i64 0, .int .i64 0, .int .i32 0], .int .i64 3] rfl (by (try simp only [List.map_toArray, List.map_cons, List.map_nil]); first | done | rfl | (simp only [List.length_drop, List.length_take]; rfl)) ?_; (with_reducible refine (redpencillaw12_sees.calls kj10 _ _ l0 a1 0 0 0 0 0 0 3 false _ ?side1 ?side2 A19.out).mono ?_); (case side1 => repeat (first | exact (Kd.C_below HR0.out HB.out) | (with_reducible refine Kd.C_alloc ?_ _) | (with_reducible refine Kd.C_drewN ?_ _) | (with_reducible refine Kd.C_drew ?_))); (case side2 => exact HC0.out); rintro e w22 ⟨rfl, hb⟩; refine ⟨_, rfl, ?_⟩; have n0_ := Aside0.mk (Kd.R_below (by (with_reducible repeat (first | apply Kd.R_alloc | apply Kd.R_drewN | apply Kd.R_drew)); exact HO_7.out) hb); have n1_ := Aside0.mk (blk_below (g := gb498) (o := .cells #[.int .i64 a2_0, .int .i64 a2_1] 24 (0, 0)) (by (with_reducible repeat (first | refine blk_drewN ?_ _ | refine blk_drew ?_ | refine blk_alloc ?_ _)); exact BK498.out) hb); have n2_ := Aside0.mk (below_step (by repeat (first | (with_reducible first | exact HB.out | apply below_alloc | apply pw_below_drewN | apply below_drew1 | refine below_set ?_ GE498.out) | exact HB.out)) hb); clear HO_7; clear BK498; clear HB; have HO_7 := n0_; have BK498 := n1_; have HB := n2_; clear n0_ n1_ n2_; (try clear hb); (try clear hb2); (try clear hk); (try clear hi)))
        go_ret
        exact ⟨by first | rfl | (simp [errW_none, errW_some] <;> rfl) | (simp [*, errW_none, errW_some] <;> rfl), by repeat (first | (with_reducible first | exact HB.out | apply below_alloc | apply pw_below_drewN | apply below_drew1 | refine below_set ?_ GE498.out) | exact HB.out)⟩
      ·
       replace c18 := Bool.eq_false_iff.mpr c18
       subst c18
       have H1 : (if 0 ≤ a1 then (if a1 < (t505.length : Int) then ((redpencillaw12_sees.f kj10 l0 a1 ((rd_T35 t505 a1).f0.f0) ((rd_T35 t505 a1).f0.f1) ((rd_T35 t505 a1).f1.f0) ((rd_T35 t505 a1).f1.f1) ((rd_T35 t505 a1).f2) ((rd_T35 t505 a1).f3) 0).bind fun t510 => (if t510 = true then (redpencillaw12_IndexFinds.j1 kj10 l0 a2_0 a2_1) else (some false))) else (none)) else (none)) = some r := by rw [if_neg (show ¬ (false = true) by decide)] at H; exact H
       clear H
       have H := H1
       clear H1
       by_cases c23 : 0 ≤ a1
       ·
        rw [if_pos c23] at H
        have c23b0 : decide (0 ≤ a1) = true := decide_eq_true c23
        clear c23
        (first | rw [c23b0] | (simp only [i64_w, i32_w]; rw [c23b0]) | rw [c23b1] | skip)
        by_cases c24 : a1 < (t505.length : Int)
        ·
         rw [if_pos c24] at H
         have c24b0 : decide (a1 < (t505.length : Int)) = true := decide_eq_true c24
         clear c24
         replace H := Option.bind_eq_some_iff.mp H
         obtain ⟨t510, A250, H⟩ := H
         replace H : (if t510 = true then (redpencillaw12_IndexFinds.j1 kj10 l0 a2_0 a2_1) else (some false)) = some r := H
         have A25 := Aside0.mk A250
         clear A250
         by_cases c26 : t510 = true
         ·
          subst c26
          have H1 : (redpencillaw12_IndexFinds.j1 kj10 l0 a2_0 a2_1) = some r := by rw [if_pos rfl] at H; exact H
          clear H
          have H := H1
          clear H1
          have H' := Aside0.mk H
          clear H
          obtain ⟨Ao27, co27, eo27⟩ := Kd.R_slice HO_7.out
          subst eo27
          have p509 : 0 ≤ (a1 : Int) := of_decide_eq_true (by first | (with_reducible assumption) | assumption)
          have q509 : a1 < (t505.length : Int) := of_decide_eq_true (by first | (with_reducible assumption) | assumption)
          obtain ⟨ad509, e509, hx509_0, hx509_1, hx509_2, hx509_3, hx509_4, hx509_5⟩ := at_T35 (Kd.R_reads' HO_7.out).2.2 a1 p509 q509
          cases e509
          replace p509 := eq_true p509
          replace q509 := eq_true q509
          go_wp2_with (first | ((with_reducible refine gate_callee (f := 40) rfl ?_); refine goesL_ (some 55) rfl rfl Tryz.func40 (by kernel_rfl) rfl #[.slice A0 l0.length c0, .int .i64 a1, .agg #[.int .i64 ((rd_T35 t505 a1).f0.f0), .int .i64 ((rd_T35 t505 a1).f0.f1), .int .i64 ((rd_T35 t505 a1).f1.f0), .int .i64 ((rd_T35 t505 a1).f1.f1), .int .i64 ((rd_T35 t505 a1).f2), .int .i32 ((rd_T35 t505 a1).f3)], .int .i64 0] rfl (by (try simp only [List.map_toArray, List.map_cons, List.map_nil]); first | done | rfl | (simp only [List.length_drop, List.length_take]; rfl)) ?_; (with_reducible refine (redpencillaw12_sees.calls kj10 _ _ l0 a1 ((rd_T35 t505 a1).f0.f0) ((rd_T35 t505 a1).f0.f1) ((rd_T35 t505 a1).f1.f0) ((rd_T35 t505 a1).f1.f1) ((rd_T35 t505 a1).f2) ((rd_T35 t505 a1).f3) 0 true _ ?side1 ?side2 A25.out).mono ?_); (case side1 => repeat (first | exact (Kd.C_below HR0.out HB.out) | (with_reducible refine Kd.C_alloc ?_ _) | (with_reducible refine Kd.C_drewN ?_ _) | (with_reducible refine Kd.C_drew ?_))); (case side2 => exact HC0.out); rintro e w28 ⟨rfl, hb⟩; refine ⟨_, rfl, ?_⟩; have n0_ := Aside0.mk (Kd.R_below (by (with_reducible repeat (first | apply Kd.R_alloc | apply Kd.R_drewN | apply Kd.R_drew)); exact HO_7.out) hb); have n1_ := Aside0.mk (blk_below (g := gb498) (o := .cells #[.int .i64 a2_0, .int .i64 a2_1] 24 (0, 0)) (by (with_reducible repeat (first | refine blk_drewN ?_ _ | refine blk_drew ?_ | refine blk_alloc ?_ _)); exact BK498.out) hb); have n2_ := Aside0.mk (below_step (by repeat (first | (with_reducible first | exact HB.out | apply below_alloc | apply pw_below_drewN | apply below_drew1 | refine below_set ?_ GE498.out) | exact HB.out)) hb); clear HO_7; clear BK498; clear HB; have HO_7 := n0_; have BK498 := n1_; have HB := n2_; clear n0_ n1_ n2_; (try clear hb); (try clear hb2); (try clear hk); (try clear hi)))
          go_meet
          case rel => exact ⟨_, H', ⟨by have := HJ10.out; first | omega | exact Nat.le_refl _⟩, ⟨by (with_reducible repeat (first | refine blk_drewN ?_ _ | refine blk_drew ?_ | refine blk_alloc ?_ _)); exact BK498.out⟩, ⟨by repeat (first | (with_reducible first | exact HB.out | apply below_alloc | apply pw_below_drewN | apply below_drew1 | refine below_set ?_ GE498.out) | exact HB.out)⟩⟩
         ·
          replace c26 := Bool.eq_false_iff.mpr c26
          subst c26
          have H1 : (some false) = some r := by rw [if_neg (show ¬ (false = true) by decide)] at H; exact H
          clear H
          have H := H1
          clear H1
          obtain rfl := Option.some.inj H
          obtain ⟨Ao29, co29, eo29⟩ := Kd.R_slice HO_7.out
          subst eo29
          have p509 : 0 ≤ (a1 : Int) := of_decide_eq_true (by first | (with_reducible assumption) | assumption)
          have q509 : a1 < (t505.length : Int) := of_decide_eq_true (by first | (with_reducible assumption) | assumption)
          obtain ⟨ad509, e509, hx509_0, hx509_1, hx509_2, hx509_3, hx509_4, hx509_5⟩ := at_T35 (Kd.R_reads' HO_7.out).2.2 a1 p509 q509
          cases e509
          replace p509 := eq_true p509
          replace q509 := eq_true q509
          go_wp2_with (first | ((with_reducible refine gate_callee (f := 40) rfl ?_); refine goesL_ (some 55) rfl rfl Tryz.func40 (by kernel_rfl) rfl #[.slice A0 l0.length c0, .int .i64 a1, .agg #[.int .i64 ((rd_T35 t505 a1).f0.f0), .int .i64 ((rd_T35 t505 a1).f0.f1), .int .i64 ((rd_T35 t505 a1).f1.f0), .int .i64 ((rd_T35 t505 a1).f1.f1), .int .i64 ((rd_T35 t505 a1).f2), .int .i32 ((rd_T35 t505 a1).f3)], .int .i64 0] rfl (by (try simp only [List.map_toArray, List.map_cons, List.map_nil]); first | done | rfl | (simp only [List.length_drop, List.length_take]; rfl)) ?_; (with_reducible refine (redpencillaw12_sees.calls kj10 _ _ l0 a1 ((rd_T35 t505 a1).f0.f0) ((rd_T35 t505 a1).f0.f1) ((rd_T35 t505 a1).f1.f0) ((rd_T35 t505 a1).f1.f1) ((rd_T35 t505 a1).f2) ((rd_T35 t505 a1).f3) 0 false _ ?side1 ?side2 A25.out).mono ?_); (case side1 => repeat (first | exact (Kd.C_below HR0.out HB.out) | (with_reducible refine Kd.C_alloc ?_ _) | (with_reducible refine Kd.C_drewN ?_ _) | (with_reducible refine Kd.C_drew ?_))); (case side2 => exact HC0.out); rintro e w30 ⟨rfl, hb⟩; refine ⟨_, rfl, ?_⟩; have n0_ := Aside0.mk (Kd.R_below (by (with_reducible repeat (first | apply Kd.R_alloc | apply Kd.R_drewN | apply Kd.R_drew)); exact HO_7.out) hb); have n1_ := Aside0.mk (blk_below (g := gb498) (o := .cells #[.int .i64 a2_0, .int .i64 a2_1] 24 (0, 0)) (by (with_reducible repeat (first | refine blk_drewN ?_ _ | refine blk_drew ?_ | refine blk_alloc ?_ _)); exact BK498.out) hb); have n2_ := Aside0.mk (below_step (by repeat (first | (with_reducible first | exact HB.out | apply below_alloc | apply pw_below_drewN | apply below_drew1 | refine below_set ?_ GE498.out) | exact HB.out)) hb); clear HO_7; clear BK498; clear HB; have HO_7 := n0_; have BK498 := n1_; have HB := n2_; clear n0_ n1_ n2_; (try clear hb); (try clear hb2); (try clear hk); (try clear hi)))
          go_ret
          exact ⟨by first | rfl | (simp [errW_none, errW_some] <;> rfl) | (simp [*, errW_none, errW_some] <;> rfl), by repeat (first | (with_reducible first | exact HB.out | apply below_alloc | apply pw_below_drewN | apply below_drew1 | refine below_set ?_ GE498.out) | exact HB.out)⟩
        ·
         rw [if_neg c24] at H
         exact absurd H (by simp)
       ·
        rw [if_neg c23] at H
        exact absurd H (by simp)
     case rest =>
      clear HC17
      try clear c1
      try clear c2
      try clear p2
      try clear c3
      try clear c4
      try clear c4b0
      try clear c4b1
      try clear p5
      try clear q5
      try clear hx5
      try clear c8
      try clear c9
      try clear c14
      try clear c15
      try clear c15b0
      try clear c18
      try clear c20
      try clear c23
      try clear c23b0
      try clear c24
      try clear c24b0
      try clear c26
      try clear hx509_0
      try clear hx509_1
      try clear hx509_2
      try clear hx509_3
      try clear hx509_4
      try clear hx509_5
      try clear p2
      try clear p509
      try clear q509
      obtain ⟨kq, HA, HJ16, BK498, HB⟩ := hcut
      cases kq with
      | zero => exact absurd HA.out (by simp [redpencillaw12_IndexFinds.j1])
      | succ kj16 =>
       have H := HA.out
       clear HA
       simp only [redpencillaw12_IndexFinds.j1] at H
       replace H := Option.bind_eq_some_iff.mp H
       obtain ⟨t511, A310, H⟩ := H
       replace H : (if t511 = true then ((redpencilref12_Of.f kj16 l0 a2_0 a2_1).bind fun t515 => (if t515 < 0 then ((redpencillaw12_of.f l0 a2_0 a2_1 0 9).bind fun t516 => (if t516 = true then (if t515 ≥ 0 then ((redpencillaw12_of.f l0 a2_0 a2_1 t515 0).bind fun t517 => (redpencillaw12_IndexFinds.j2 kj16 l0 (!t517) a2_0 a2_1)) else (redpencillaw12_IndexFinds.j2 kj16 l0 false a2_0 a2_1)) else (redpencillaw12_IndexFinds.j2 kj16 l0 true a2_0 a2_1))) else (if t515 ≥ 0 then ((redpencillaw12_of.f l0 a2_0 a2_1 t515 0).bind fun t518 => (redpencillaw12_IndexFinds.j2 kj16 l0 (!t518) a2_0 a2_1)) else (redpencillaw12_IndexFinds.j2 kj16 l0 false a2_0 a2_1)))) else ((redpencillaw12_of.f l0 a2_0 a2_1 0 2).bind fun t512 => (if t512 = true then ((redpencillaw12_before.f l0 a2_0 a2_1 0 2).bind fun t513 => (if t513 = true then ((redpencillaw12_known.f).bind fun t514 => (some t514)) else (some false))) else (some false)))) = some r := H
       have A31 := Aside0.mk A310
       clear A310
       by_cases c32 : t511 = true
       ·
        subst c32
        have H1 : ((redpencilref12_Of.f kj16 l0 a2_0 a2_1).bind fun t515 => (if t515 < 0 then ((redpencillaw12_of.f l0 a2_0 a2_1 0 9).bind fun t516 => (if t516 = true then (if t515 ≥ 0 then ((redpencillaw12_of.f l0 a2_0 a2_1 t515 0).bind fun t517 => (redpencillaw12_IndexFinds.j2 kj16 l0 (!t517) a2_0 a2_1)) else (redpencillaw12_IndexFinds.j2 kj16 l0 false a2_0 a2_1)) else (redpencillaw12_IndexFinds.j2 kj16 l0 true a2_0 a2_1))) else (if t515 ≥ 0 then ((redpencillaw12_of.f l0 a2_0 a2_1 t515 0).bind fun t518 => (redpencillaw12_IndexFinds.j2 kj16 l0 (!t518) a2_0 a2_1)) else (redpencillaw12_IndexFinds.j2 kj16 l0 false a2_0 a2_1)))) = some r := by rw [if_pos rfl] at H; exact H
        clear H
        have H := H1
        clear H1
        replace H := Option.bind_eq_some_iff.mp H
        obtain ⟨t515, A330, H⟩ := H
        replace H : (if t515 < 0 then ((redpencillaw12_of.f l0 a2_0 a2_1 0 9).bind fun t516 => (if t516 = true then (if t515 ≥ 0 then ((redpencillaw12_of.f l0 a2_0 a2_1 t515 0).bind fun t517 => (redpencillaw12_IndexFinds.j2 kj16 l0 (!t517) a2_0 a2_1)) else (redpencillaw12_IndexFinds.j2 kj16 l0 false a2_0 a2_1)) else (redpencillaw12_IndexFinds.j2 kj16 l0 true a2_0 a2_1))) else (if t515 ≥ 0 then ((redpencillaw12_of.f l0 a2_0 a2_1 t515 0).bind fun t518 => (redpencillaw12_IndexFinds.j2 kj16 l0 (!t518) a2_0 a2_1)) else (redpencillaw12_IndexFinds.j2 kj16 l0 false a2_0 a2_1))) = some r := H
        have A33 := Aside0.mk A330
        clear A330
        have HC34 := Aside0.mk H
        clear H
        have hcz35_0 : wc.cell? ⟨gb498, 0, none⟩ = some (.int .i64 a2_0) := (blk_cell BK498.out 0).trans rfl
        have hcz35_1 : wc.cell? ⟨gb498, 1, none⟩ = some (.int .i64 a2_1) := (blk_cell BK498.out 1).trans rfl
        have hfz35_0 := blk_frozen BK498.out 0
        have hfz35_1 := blk_frozen BK498.out 1
        go_upto_region 14 with (first | ((with_reducible refine gate_callee (f := 30) rfl ?_); refine goesL_ (some 58) rfl rfl Tryz.func30 (by kernel_rfl) rfl #[.agg #[.int .i64 a2_0, .int .i64 a2_1]] rfl (by (try simp only [List.map_toArray, List.map_cons, List.map_nil]); first | done | rfl | (simp only [List.length_drop, List.length_take]; rfl)) ?_; (with_reducible refine (redpencilref04_Valid.calls a2_0 a2_1 true _ A31.out).mono ?_); rintro e w36 ⟨rfl, hb⟩; refine ⟨_, rfl, ?_⟩; have n0_ := Aside0.mk (blk_below (g := gb498) (o := .cells #[.int .i64 a2_0, .int .i64 a2_1] 24 (0, 0)) (by (with_reducible repeat (first | refine blk_drewN ?_ _ | refine blk_drew ?_ | refine blk_alloc ?_ _)); exact BK498.out) hb); have n1_ := Aside0.mk (below_step (by repeat (first | (with_reducible first | exact HB.out | apply below_alloc | apply pw_below_drewN | apply below_drew1 | refine below_set ?_ GE498.out) | exact HB.out)) hb); clear BK498; clear HB; have BK498 := n0_; have HB := n1_; clear n0_ n1_; (try clear hb); (try clear hb2); (try clear hk); (try clear hi); have hcz37_0 : w36.cell? ⟨gb498, 0, none⟩ = some (.int .i64 a2_0) := (blk_cell BK498.out 0).trans rfl; have hcz37_1 : w36.cell? ⟨gb498, 1, none⟩ = some (.int .i64 a2_1) := (blk_cell BK498.out 1).trans rfl; have hfz37_0 := blk_frozen BK498.out 0; have hfz37_1 := blk_frozen BK498.out 1) | ((with_reducible refine gate_callee (f := 44) rfl ?_); refine goesL_ (some 73) rfl rfl Tryz.func44 (by kernel_rfl) rfl #[.slice A0 l0.length c0, .agg #[.int .i64 a2_0, .int .i64 a2_1]] rfl (by (try simp only [List.map_toArray, List.map_cons, List.map_nil]); first | done | rfl | (simp only [List.length_drop, List.length_take]; rfl)) ?_; (with_reducible refine (redpencilref12_Of.calls kj16 _ _ l0 a2_0 a2_1 t515 _ ?side1 ?side2 A33.out).mono ?_); (case side1 => repeat (first | exact (Kd.C_below HR0.out HB.out) | (with_reducible refine Kd.C_alloc ?_ _) | (with_reducible refine Kd.C_drewN ?_ _) | (with_reducible refine Kd.C_drew ?_))); (case side2 => exact HC0.out); rintro e w38 ⟨rfl, hb⟩; refine ⟨_, rfl, ?_⟩; have n0_ := Aside0.mk (blk_below (g := gb498) (o := .cells #[.int .i64 a2_0, .int .i64 a2_1] 24 (0, 0)) (by (with_reducible repeat (first | refine blk_drewN ?_ _ | refine blk_drew ?_ | refine blk_alloc ?_ _)); exact BK498.out) hb); have n1_ := Aside0.mk (below_step (by repeat (first | (with_reducible first | exact HB.out | apply below_alloc | apply pw_below_drewN | apply below_drew1 | refine below_set ?_ GE498.out) | exact HB.out)) hb); clear BK498; clear HB; have BK498 := n0_; have HB := n1_; clear n0_ n1_; (try clear hb); (try clear hb2); (try clear hk); (try clear hi)))
        (try simp only [Act.put, List.setIfInBounds_toArray, List.set_cons_zero, List.set_cons_succ])
        go_cut [92] (fun v92 wc => ∃ (kq : Nat) (x92_33 : Bool), v92 = .bool x92_33 ∧ Aside0 (redpencillaw12_IndexFinds.j2 kq l0 x92_33 a2_0 a2_1 = some r) ∧ Aside0 (kq ≤ kj16) ∧ Aside0 (wc.heap[gb498]? = some (.cells #[.int .i64 a2_0, .int .i64 a2_1] 24 (0, 0))) ∧ Aside0 (Below w.heap.size w wc))
        case first =>
         have H := HC34.out
         clear HC34
         by_cases c39 : t515 < 0
         ·
          rw [if_pos c39] at H
          have c39b0 : decide (t515 < 0) = true := decide_eq_true c39
          clear c39
          (first | rw [c39b0] | (simp only [i64_w, i32_w]; rw [c39b0]) | rw [c39b1] | skip)
          replace H := Option.bind_eq_some_iff.mp H
          obtain ⟨t516, A400, H⟩ := H
          replace H : (if t516 = true then (if t515 ≥ 0 then ((redpencillaw12_of.f l0 a2_0 a2_1 t515 0).bind fun t517 => (redpencillaw12_IndexFinds.j2 kj16 l0 (!t517) a2_0 a2_1)) else (redpencillaw12_IndexFinds.j2 kj16 l0 false a2_0 a2_1)) else (redpencillaw12_IndexFinds.j2 kj16 l0 true a2_0 a2_1)) = some r := H
          have A40 := Aside0.mk A400
          clear A400
          by_cases c41 : t516 = true
          ·
           subst c41
           have H1 : (if t515 ≥ 0 then ((redpencillaw12_of.f l0 a2_0 a2_1 t515 0).bind fun t517 => (redpencillaw12_IndexFinds.j2 kj16 l0 (!t517) a2_0 a2_1)) else (redpencillaw12_IndexFinds.j2 kj16 l0 false a2_0 a2_1)) = some r := by rw [if_pos rfl] at H; exact H
           clear H
           have H := H1
           clear H1
           by_cases c42 : t515 ≥ 0
           ·
            rw [if_pos c42] at H
            have c42b0 : decide (0 ≤ t515) = true := decide_eq_true c42
            clear c42
            replace H := Option.bind_eq_some_iff.mp H
            obtain ⟨t517, A430, H⟩ := H
            replace H : (redpencillaw12_IndexFinds.j2 kj16 l0 (!t517) a2_0 a2_1) = some r := H
            have A43 := Aside0.mk A430
            clear A430
            have H' := Aside0.mk H
            clear H
            have hcz44_0 : w38.cell? ⟨gb498, 0, none⟩ = some (.int .i64 a2_0) := (blk_cell BK498.out 0).trans rfl
            have hcz44_1 : w38.cell? ⟨gb498, 1, none⟩ = some (.int .i64 a2_1) := (blk_cell BK498.out 1).trans rfl
            have hfz44_0 := blk_frozen BK498.out 0
            have hfz44_1 := blk_frozen BK498.out 1
            go_wp2_with (first | (go_at_call 41; (with_reducible refine (redpencillaw12_of.calls _ _ l0 a2_0 a2_1 0 9 true _ ?side1 ?side2 A40.out).mono ?_); (case side1 => repeat (first | exact (Kd.C_below HR0.out HB.out) | (with_reducible refine Kd.C_alloc ?_ _) | (with_reducible refine Kd.C_drewN ?_ _) | (with_reducible refine Kd.C_drew ?_))); (case side2 => exact HC0.out); rintro e w45 ⟨rfl, hb⟩; have n0_ := Aside0.mk (blk_below (g := gb498) (o := .cells #[.int .i64 a2_0, .int .i64 a2_1] 24 (0, 0)) (by (with_reducible repeat (first | refine blk_drewN ?_ _ | refine blk_drew ?_ | refine blk_alloc ?_ _)); exact BK498.out) hb); have n1_ := Aside0.mk (below_step (by repeat (first | (with_reducible first | exact HB.out | apply below_alloc | apply pw_below_drewN | apply below_drew1 | refine below_set ?_ GE498.out) | exact HB.out)) hb); clear BK498; clear HB; have BK498 := n0_; have HB := n1_; clear n0_ n1_; (try clear hb); (try clear hb2); (try clear hk); (try clear hi); have hcz46_0 : w45.cell? ⟨gb498, 0, none⟩ = some (.int .i64 a2_0) := (blk_cell BK498.out 0).trans rfl; have hcz46_1 : w45.cell? ⟨gb498, 1, none⟩ = some (.int .i64 a2_1) := (blk_cell BK498.out 1).trans rfl; have hfz46_0 := blk_frozen BK498.out 0; have hfz46_1 := blk_frozen BK498.out 1) | (go_at_call 41; (with_reducible refine (redpencillaw12_of.calls _ _ l0 a2_0 a2_1 t515 0 t517 _ ?side1 ?side2 A43.out).mono ?_); (case side1 => repeat (first | exact (Kd.C_below HR0.out HB.out) | (with_reducible refine Kd.C_alloc ?_ _) | (with_reducible refine Kd.C_drewN ?_ _) | (with_reducible refine Kd.C_drew ?_))); (case side2 => exact HC0.out); rintro e w47 ⟨rfl, hb⟩; have n0_ := Aside0.mk (blk_below (g := gb498) (o := .cells #[.int .i64 a2_0, .int .i64 a2_1] 24 (0, 0)) (by (with_reducible repeat (first | refine blk_drewN ?_ _ | refine blk_drew ?_ | refine blk_alloc ?_ _)); exact BK498.out) hb); have n1_ := Aside0.mk (below_step (by repeat (first | (with_reducible first | exact HB.out | apply below_alloc | apply pw_below_drewN | apply below_drew1 | refine below_set ?_ GE498.out) | exact HB.out)) hb); clear BK498; clear HB; have BK498 := n0_; have HB := n1_; clear n0_ n1_; (try clear hb); (try clear hb2); (try clear hk); (try clear hi)))
            go_meet
            case rel => exact ⟨_, (!t517), (by first | rfl | (simp; done) | (simp [*]; done)), H', ⟨by have := HJ10.out; have := HJ16.out; first | omega | exact Nat.le_refl _⟩, ⟨by (with_reducible repeat (first | refine blk_drewN ?_ _ | refine blk_drew ?_ | refine blk_alloc ?_ _)); exact BK498.out⟩, ⟨by repeat (first | (with_reducible first | exact HB.out | apply below_alloc | apply pw_below_drewN | apply below_drew1 | refine below_set ?_ GE498.out) | exact HB.out)⟩⟩
           ·
            rw [if_neg c42] at H
            have c42b0 : decide (0 ≤ t515) = false := decide_eq_false c42
            clear c42
            have H' := Aside0.mk H
            clear H
            have hcz48_0 : w38.cell? ⟨gb498, 0, none⟩ = some (.int .i64 a2_0) := (blk_cell BK498.out 0).trans rfl
            have hcz48_1 : w38.cell? ⟨gb498, 1, none⟩ = some (.int .i64 a2_1) := (blk_cell BK498.out 1).trans rfl
            have hfz48_0 := blk_frozen BK498.out 0
            have hfz48_1 := blk_frozen BK498.out 1
            go_wp2_with (first | (go_at_call 41; (with_reducible refine (redpencillaw12_of.calls _ _ l0 a2_0 a2_1 0 9 true _ ?side1 ?side2 A40.out).mono ?_); (case side1 => repeat (first | exact (Kd.C_below HR0.out HB.out) | (with_reducible refine Kd.C_alloc ?_ _) | (with_reducible refine Kd.C_drewN ?_ _) | (with_reducible refine Kd.C_drew ?_))); (case side2 => exact HC0.out); rintro e w49 ⟨rfl, hb⟩; have n0_ := Aside0.mk (blk_below (g := gb498) (o := .cells #[.int .i64 a2_0, .int .i64 a2_1] 24 (0, 0)) (by (with_reducible repeat (first | refine blk_drewN ?_ _ | refine blk_drew ?_ | refine blk_alloc ?_ _)); exact BK498.out) hb); have n1_ := Aside0.mk (below_step (by repeat (first | (with_reducible first | exact HB.out | apply below_alloc | apply pw_below_drewN | apply below_drew1 | refine below_set ?_ GE498.out) | exact HB.out)) hb); clear BK498; clear HB; have BK498 := n0_; have HB := n1_; clear n0_ n1_; (try clear hb); (try clear hb2); (try clear hk); (try clear hi)))
            go_meet
            case rel => exact ⟨_, (false), (by first | rfl | (simp; done) | (simp [*]; done)), H', ⟨by have := HJ10.out; have := HJ16.out; first | omega | exact Nat.le_refl _⟩, ⟨by (with_reducible repeat (first | refine blk_drewN ?_ _ | refine blk_drew ?_ | refine blk_alloc ?_ _)); exact BK498.out⟩, ⟨by repeat (first | (with_reducible first | exact HB.out | apply below_alloc | apply pw_below_drewN | apply below_drew1 | refine below_set ?_ GE498.out) | exact HB.out)⟩⟩
          ·
           replace c41 := Bool.eq_false_iff.mpr c41
           subst c41
           have H1 : (redpencillaw12_IndexFinds.j2 kj16 l0 true a2_0 a2_1) = some r := by rw [if_neg (show ¬ (false = true) by decide)] at H; exact H
           clear H
           have H := H1
           clear H1
           have H' := Aside0.mk H
           clear H
           have hcz50_0 : w38.cell? ⟨gb498, 0, none⟩ = some (.int .i64 a2_0) := (blk_cell BK498.out 0).trans rfl
           have hcz50_1 : w38.cell? ⟨gb498, 1, none⟩ = some (.int .i64 a2_1) := (blk_cell BK498.out 1).trans rfl
           have hfz50_0 := blk_frozen BK498.out 0
           have hfz50_1 := blk_frozen BK498.out 1
           go_wp2_with (first | (go_at_call 41; (with_reducible refine (redpencillaw12_of.calls _ _ l0 a2_0 a2_1 0 9 false _ ?side1 ?side2 A40.out).mono ?_); (case side1 => repeat (first | exact (Kd.C_below HR0.out HB.out) | (with_reducible refine Kd.C_alloc ?_ _) | (with_reducible refine Kd.C_drewN ?_ _) | (with_reducible refine Kd.C_drew ?_))); (case side2 => exact HC0.out); rintro e w51 ⟨rfl, hb⟩; have n0_ := Aside0.mk (blk_below (g := gb498) (o := .cells #[.int .i64 a2_0, .int .i64 a2_1] 24 (0, 0)) (by (with_reducible repeat (first | refine blk_drewN ?_ _ | refine blk_drew ?_ | refine blk_alloc ?_ _)); exact BK498.out) hb); have n1_ := Aside0.mk (below_step (by repeat (first | (with_reducible first | exact HB.out | apply below_alloc | apply pw_below_drewN | apply below_drew1 | refine below_set ?_ GE498.out) | exact HB.out)) hb); clear BK498; clear HB; have BK498 := n0_; have HB := n1_; clear n0_ n1_; (try clear hb); (try clear hb2); (try clear hk); (try clear hi)))
           go_meet
           case rel => exact ⟨_, (true), (by first | rfl | (simp; done) | (simp [*]; done)), H', ⟨by have := HJ10.out; have := HJ16.out; first | omega | exact Nat.le_refl _⟩, ⟨by (with_reducible repeat (first | refine blk_drewN ?_ _ | refine blk_drew ?_ | refine blk_alloc ?_ _)); exact BK498.out⟩, ⟨by repeat (first | (with_reducible first | exact HB.out | apply below_alloc | apply pw_below_drewN | apply below_drew1 | refine below_set ?_ GE498.out) | exact HB.out)⟩⟩
         ·
          rw [if_neg c39] at H
          have c39b0 : decide (t515 < 0) = false := decide_eq_false c39
          clear c39
          (first | rw [c39b0] | (simp only [i64_w, i32_w]; rw [c39b0]) | rw [c39b1] | skip)
          by_cases c52 : t515 ≥ 0
          ·
           rw [if_pos c52] at H
           have c52b0 : decide (0 ≤ t515) = true := decide_eq_true c52
           clear c52
           replace H := Option.bind_eq_some_iff.mp H
           obtain ⟨t518, A530, H⟩ := H
           replace H : (redpencillaw12_IndexFinds.j2 kj16 l0 (!t518) a2_0 a2_1) = some r := H
           have A53 := Aside0.mk A530
           clear A530
           have H' := Aside0.mk H
           clear H
           have hcz54_0 : w38.cell? ⟨gb498, 0, none⟩ = some (.int .i64 a2_0) := (blk_cell BK498.out 0).trans rfl
           have hcz54_1 : w38.cell? ⟨gb498, 1, none⟩ = some (.int .i64 a2_1) := (blk_cell BK498.out 1).trans rfl
           have hfz54_0 := blk_frozen BK498.out 0
           have hfz54_1 := blk_frozen BK498.out 1
           go_wp2_with (first | (go_at_call 41; (with_reducible refine (redpencillaw12_of.calls _ _ l0 a2_0 a2_1 t515 0 t518 _ ?side1 ?side2 A53.out).mono ?_); (case side1 => repeat (first | exact (Kd.C_below HR0.out HB.out) | (with_reducible refine Kd.C_alloc ?_ _) | (with_reducible refine Kd.C_drewN ?_ _) | (with_reducible refine Kd.C_drew ?_))); (case side2 => exact HC0.out); rintro e w55 ⟨rfl, hb⟩; have n0_ := Aside0.mk (blk_below (g := gb498) (o := .cells #[.int .i64 a2_0, .int .i64 a2_1] 24 (0, 0)) (by (with_reducible repeat (first | refine blk_drewN ?_ _ | refine blk_drew ?_ | refine blk_alloc ?_ _)); exact BK498.out) hb); have n1_ := Aside0.mk (below_step (by repeat (first | (with_reducible first | exact HB.out | apply below_alloc | apply pw_below_drewN | apply below_drew1 | refine below_set ?_ GE498.out) | exact HB.out)) hb); clear BK498; clear HB; have BK498 := n0_; have HB := n1_; clear n0_ n1_; (try clear hb); (try clear hb2); (try clear hk); (try clear hi)))
           go_meet
           case rel => exact ⟨_, (!t518), (by first | rfl | (simp; done) | (simp [*]; done)), H', ⟨by have := HJ10.out; have := HJ16.out; first | omega | exact Nat.le_refl _⟩, ⟨by (with_reducible repeat (first | refine blk_drewN ?_ _ | refine blk_drew ?_ | refine blk_alloc ?_ _)); exact BK498.out⟩, ⟨by repeat (first | (with_reducible first | exact HB.out | apply below_alloc | apply pw_below_drewN | apply below_drew1 | refine below_set ?_ GE498.out) | exact HB.out)⟩⟩
          ·
           rw [if_neg c52] at H
           have c52b0 : decide (0 ≤ t515) = false := decide_eq_false c52
           clear c52
           have H' := Aside0.mk H
           clear H
           go_wp2
           go_meet
           case rel => exact ⟨_, (false), (by first | rfl | (simp; done) | (simp [*]; done)), H', ⟨by have := HJ10.out; have := HJ16.out; first | omega | exact Nat.le_refl _⟩, ⟨by (with_reducible repeat (first | refine blk_drewN ?_ _ | refine blk_drew ?_ | refine blk_alloc ?_ _)); exact BK498.out⟩, ⟨by repeat (first | (with_reducible first | exact HB.out | apply below_alloc | apply pw_below_drewN | apply below_drew1 | refine below_set ?_ GE498.out) | exact HB.out)⟩⟩
        case rest =>
         clear HC34
         try clear c1
         try clear c2
         try clear p2
         try clear c3
         try clear c4
         try clear c4b0
         try clear c4b1
         try clear c5
         try clear p5
         try clear q5
         try clear hx5
         try clear c8
         try clear c9
         try clear c14
         try clear c15
         try clear c15b0
         try clear c18
         try clear c20
         try clear c23
         try clear c23b0
         try clear c24
         try clear c24b0
         try clear c26
         try clear c30
         try clear c32
         try clear c34
         try clear c39
         try clear c39b0
         try clear c40
         try clear c41
         try clear c42
         try clear c42b0
         try clear c43
         try clear c44
         try clear p50
         try clear q50
         try clear hx50
         try clear c52
         try clear c52b0
         try clear hcz35_0
         try clear hcz35_1
         try clear hcz37_0
         try clear hcz37_1
         try clear hcz44_0
         try clear hcz44_1
         try clear hcz46_0
         try clear hcz46_1
         try clear hcz48_0
         try clear hcz48_1
         try clear hcz50_0
         try clear hcz50_1
         try clear hcz54_0
         try clear hcz54_1
         try clear hfz35_0
         try clear hfz35_1
         try clear hfz37_0
         try clear hfz37_1
         try clear hfz44_0
         try clear hfz44_1
         try clear hfz46_0
         try clear hfz46_1
         try clear hfz48_0
         try clear hfz48_1
         try clear hfz50_0
         try clear hfz50_1
         try clear hfz54_0
         try clear hfz54_1
         try clear hx509_0
         try clear hx509_1
         try clear hx509_2
         try clear hx509_3
         try clear hx509_4
         try clear hx509_5
         try clear p2
         try clear p5
         try clear p509
         try clear q5
         try clear q509
         obtain ⟨kq, x92_33, rfl, HA, HJ33, BK498, HB⟩ := hcut
         cases kq with
         | zero => exact absurd HA.out (by simp [redpencillaw12_IndexFinds.j2])
         | succ kj33 =>
          have H := HA.out
          clear HA
          simp only [redpencillaw12_IndexFinds.j2] at H
          by_cases c56 : x92_33 = true
          ·
           subst c56
           have H1 : (some false) = some r := by rw [if_pos rfl] at H; exact H
           clear H
           have H := H1
           clear H1
           obtain rfl := Option.some.inj H
           go_wp2
           go_ret
           exact ⟨by first | rfl | (simp [errW_none, errW_some] <;> rfl) | (simp [*, errW_none, errW_some] <;> rfl), by repeat (first | (with_reducible first | exact HB.out | apply below_alloc | apply pw_below_drewN | apply below_drew1 | refine below_set ?_ GE498.out) | exact HB.out)⟩
          ·
           replace c56 := Bool.eq_false_iff.mpr c56
           subst c56
           have H1 : ((redpencilref12_Before.f kj33 l0 a2_0 a2_1).bind fun t519 => (if t519 < 0 then ((redpencillaw12_before.f l0 a2_0 a2_1 0 9).bind fun t520 => (if t520 = true then (if t519 ≥ 0 then ((redpencillaw12_before.f l0 a2_0 a2_1 t519 0).bind fun t521 => (if t521 = true then ((redpencillaw12_known.f).bind fun t522 => (some t522)) else (some false))) else ((redpencillaw12_known.f).bind fun t523 => (some t523))) else (some false))) else (if t519 ≥ 0 then ((redpencillaw12_before.f l0 a2_0 a2_1 t519 0).bind fun t524 => (if t524 = true then ((redpencillaw12_known.f).bind fun t525 => (some t525)) else (some false))) else ((redpencillaw12_known.f).bind fun t526 => (some t526))))) = some r := by rw [if_neg (show ¬ (false = true) by decide)] at H; exact H
           clear H
           have H := H1
           clear H1
           replace H := Option.bind_eq_some_iff.mp H
           obtain ⟨t519, A570, H⟩ := H
           replace H : (if t519 < 0 then ((redpencillaw12_before.f l0 a2_0 a2_1 0 9).bind fun t520 => (if t520 = true then (if t519 ≥ 0 then ((redpencillaw12_before.f l0 a2_0 a2_1 t519 0).bind fun t521 => (if t521 = true then ((redpencillaw12_known.f).bind fun t522 => (some t522)) else (some false))) else ((redpencillaw12_known.f).bind fun t523 => (some t523))) else (some false))) else (if t519 ≥ 0 then ((redpencillaw12_before.f l0 a2_0 a2_1 t519 0).bind fun t524 => (if t524 = true then ((redpencillaw12_known.f).bind fun t525 => (some t525)) else (some false))) else ((redpencillaw12_known.f).bind fun t526 => (some t526)))) = some r := H
           have A57 := Aside0.mk A570
           clear A570
           by_cases c58 : t519 < 0
           ·
            rw [if_pos c58] at H
            have c58b0 : decide (t519 < 0) = true := decide_eq_true c58
            clear c58
            replace H := Option.bind_eq_some_iff.mp H
            obtain ⟨t520, A590, H⟩ := H
            replace H : (if t520 = true then (if t519 ≥ 0 then ((redpencillaw12_before.f l0 a2_0 a2_1 t519 0).bind fun t521 => (if t521 = true then ((redpencillaw12_known.f).bind fun t522 => (some t522)) else (some false))) else ((redpencillaw12_known.f).bind fun t523 => (some t523))) else (some false)) = some r := H
            have A59 := Aside0.mk A590
            clear A590
            by_cases c60 : t520 = true
            ·
             subst c60
             have H1 : (if t519 ≥ 0 then ((redpencillaw12_before.f l0 a2_0 a2_1 t519 0).bind fun t521 => (if t521 = true then ((redpencillaw12_known.f).bind fun t522 => (some t522)) else (some false))) else ((redpencillaw12_known.f).bind fun t523 => (some t523))) = some r := by rw [if_pos rfl] at H; exact H
             clear H
             have H := H1
             clear H1
             by_cases c61 : t519 ≥ 0
             ·
              rw [if_pos c61] at H
              have c61b0 : decide (0 ≤ t519) = true := decide_eq_true c61
              clear c61
              replace H := Option.bind_eq_some_iff.mp H
              obtain ⟨t521, A620, H⟩ := H
              replace H : (if t521 = true then ((redpencillaw12_known.f).bind fun t522 => (some t522)) else (some false)) = some r := H
              have A62 := Aside0.mk A620
              clear A620
              by_cases c63 : t521 = true
              ·
               subst c63
               have H1 : ((redpencillaw12_known.f).bind fun t522 => (some t522)) = some r := by rw [if_pos rfl] at H; exact H
               clear H
               have H := H1
               clear H1
               replace H := Option.bind_eq_some_iff.mp H
               obtain ⟨t522, A640, H⟩ := H
               replace H : (some t522) = some r := H
               have A64 := Aside0.mk A640
               clear A640
               obtain rfl := Option.some.inj H
               have hcz65_0 : wc.cell? ⟨gb498, 0, none⟩ = some (.int .i64 a2_0) := (blk_cell BK498.out 0).trans rfl
               have hcz65_1 : wc.cell? ⟨gb498, 1, none⟩ = some (.int .i64 a2_1) := (blk_cell BK498.out 1).trans rfl
               have hfz65_0 := blk_frozen BK498.out 0
               have hfz65_1 := blk_frozen BK498.out 1
               go_wp2_with (first | ((with_reducible refine gate_callee (f := 45) rfl ?_); refine goesL_ (some 95) rfl rfl Tryz.func45 (by kernel_rfl) rfl #[.slice A0 l0.length c0, .agg #[.int .i64 a2_0, .int .i64 a2_1]] rfl (by (try simp only [List.map_toArray, List.map_cons, List.map_nil]); first | done | rfl | (simp only [List.length_drop, List.length_take]; rfl)) ?_; (with_reducible refine (redpencilref12_Before.calls kj33 _ _ l0 a2_0 a2_1 t519 _ ?side1 ?side2 A57.out).mono ?_); (case side1 => repeat (first | exact (Kd.C_below HR0.out HB.out) | (with_reducible refine Kd.C_alloc ?_ _) | (with_reducible refine Kd.C_drewN ?_ _) | (with_reducible refine Kd.C_drew ?_))); (case side2 => exact HC0.out); rintro e w66 ⟨rfl, hb⟩; refine ⟨_, rfl, ?_⟩; have n0_ := Aside0.mk (blk_below (g := gb498) (o := .cells #[.int .i64 a2_0, .int .i64 a2_1] 24 (0, 0)) (by (with_reducible repeat (first | refine blk_drewN ?_ _ | refine blk_drew ?_ | refine blk_alloc ?_ _)); exact BK498.out) hb); have n1_ := Aside0.mk (below_step (by repeat (first | (with_reducible first | exact HB.out | apply below_alloc | apply pw_below_drewN | apply below_drew1 | refine below_set ?_ GE498.out) | exact HB.out)) hb); clear BK498; clear HB; have BK498 := n0_; have HB := n1_; clear n0_ n1_; (try clear hb); (try clear hb2); (try clear hk); (try clear hi); have hcz67_0 : w66.cell? ⟨gb498, 0, none⟩ = some (.int .i64 a2_0) := (blk_cell BK498.out 0).trans rfl; have hcz67_1 : w66.cell? ⟨gb498, 1, none⟩ = some (.int .i64 a2_1) := (blk_cell BK498.out 1).trans rfl; have hfz67_0 := blk_frozen BK498.out 0; have hfz67_1 := blk_frozen BK498.out 1) | (go_at_call 42; (with_reducible refine (redpencillaw12_before.calls _ _ l0 a2_0 a2_1 0 9 true _ ?side1 ?side2 A59.out).mono ?_); (case side1 => repeat (first | exact (Kd.C_below HR0.out HB.out) | (with_reducible refine Kd.C_alloc ?_ _) | (with_reducible refine Kd.C_drewN ?_ _) | (with_reducible refine Kd.C_drew ?_))); (case side2 => exact HC0.out); rintro e w68 ⟨rfl, hb⟩; have n0_ := Aside0.mk (blk_below (g := gb498) (o := .cells #[.int .i64 a2_0, .int .i64 a2_1] 24 (0, 0)) (by (with_reducible repeat (first | refine blk_drewN ?_ _ | refine blk_drew ?_ | refine blk_alloc ?_ _)); exact BK498.out) hb); have n1_ := Aside0.mk (below_step (by repeat (first | (with_reducible first | exact HB.out | apply below_alloc | apply pw_below_drewN | apply below_drew1 | refine below_set ?_ GE498.out) | exact HB.out)) hb); clear BK498; clear HB; have BK498 := n0_; have HB := n1_; clear n0_ n1_; (try clear hb); (try clear hb2); (try clear hk); (try clear hi); have hcz69_0 : w68.cell? ⟨gb498, 0, none⟩ = some (.int .i64 a2_0) := (blk_cell BK498.out 0).trans rfl; have hcz69_1 : w68.cell? ⟨gb498, 1, none⟩ = some (.int .i64 a2_1) := (blk_cell BK498.out 1).trans rfl; have hfz69_0 := blk_frozen BK498.out 0; have hfz69_1 := blk_frozen BK498.out 1) | (go_at_call 42; (with_reducible refine (redpencillaw12_before.calls _ _ l0 a2_0 a2_1 t519 0 true _ ?side1 ?side2 A62.out).mono ?_); (case side1 => repeat (first | exact (Kd.C_below HR0.out HB.out) | (with_reducible refine Kd.C_alloc ?_ _) | (with_reducible refine Kd.C_drewN ?_ _) | (with_reducible refine Kd.C_drew ?_))); (case side2 => exact HC0.out); rintro e w70 ⟨rfl, hb⟩; have n0_ := Aside0.mk (blk_below (g := gb498) (o := .cells #[.int .i64 a2_0, .int .i64 a2_1] 24 (0, 0)) (by (with_reducible repeat (first | refine blk_drewN ?_ _ | refine blk_drew ?_ | refine blk_alloc ?_ _)); exact BK498.out) hb); have n1_ := Aside0.mk (below_step (by repeat (first | (with_reducible first | exact HB.out | apply below_alloc | apply pw_below_drewN | apply below_drew1 | refine below_set ?_ GE498.out) | exact HB.out)) hb); clear BK498; clear HB; have BK498 := n0_; have HB := n1_; clear n0_ n1_; (try clear hb); (try clear hb2); (try clear hk); (try clear hi)) | ((with_reducible refine gate_callee (f := 34) rfl ?_); refine goesL_ (some 115) rfl rfl Tryz.func34 (by kernel_rfl) rfl #[] rfl (by (try simp only [List.map_toArray, List.map_cons, List.map_nil]); first | done | rfl | (simp only [List.length_drop, List.length_take]; rfl)) ?_; (with_reducible refine (redpencillaw12_known.calls  t522 _ A64.out).mono ?_); rintro e w71 ⟨rfl, hb⟩; refine ⟨_, rfl, ?_⟩; have n0_ := Aside0.mk (blk_below (g := gb498) (o := .cells #[.int .i64 a2_0, .int .i64 a2_1] 24 (0, 0)) (by (with_reducible repeat (first | refine blk_drewN ?_ _ | refine blk_drew ?_ | refine blk_alloc ?_ _)); exact BK498.out) hb); have n1_ := Aside0.mk (below_step (by repeat (first | (with_reducible first | exact HB.out | apply below_alloc | apply pw_below_drewN | apply below_drew1 | refine below_set ?_ GE498.out) | exact HB.out)) hb); clear BK498; clear HB; have BK498 := n0_; have HB := n1_; clear n0_ n1_; (try clear hb); (try clear hb2); (try clear hk); (try clear hi)))
               go_ret
               exact ⟨by first | rfl | (simp [errW_none, errW_some] <;> rfl) | (simp [*, errW_none, errW_some] <;> rfl), by repeat (first | (with_reducible first | exact HB.out | apply below_alloc | apply pw_below_drewN | apply below_drew1 | refine below_set ?_ GE498.out) | exact HB.out)⟩
              ·
               replace c63 := Bool.eq_false_iff.mpr c63
               subst c63
               have H1 : (some false) = some r := by rw [if_neg (show ¬ (false = true) by decide)] at H; exact H
               clear H
               have H := H1
               clear H1
               obtain rfl := Option.some.inj H
               have hcz72_0 : wc.cell? ⟨gb498, 0, none⟩ = some (.int .i64 a2_0) := (blk_cell BK498.out 0).trans rfl
               have hcz72_1 : wc.cell? ⟨gb498, 1, none⟩ = some (.int .i64 a2_1) := (blk_cell BK498.out 1).trans rfl
               have hfz72_0 := blk_frozen BK498.out 0
               have hfz72_1 := blk_frozen BK498.out 1
               go_wp2_with (first | ((with_reducible refine gate_callee (f := 45) rfl ?_); refine goesL_ (some 95) rfl rfl Tryz.func45 (by kernel_rfl) rfl #[.slice A0 l0.length c0, .agg #[.int .i64 a2_0, .int .i64 a2_1]] rfl (by (try simp only [List.map_toArray, List.map_cons, List.map_nil]); first | done | rfl | (simp only [List.length_drop, List.length_take]; rfl)) ?_; (with_reducible refine (redpencilref12_Before.calls kj33 _ _ l0 a2_0 a2_1 t519 _ ?side1 ?side2 A57.out).mono ?_); (case side1 => repeat (first | exact (Kd.C_below HR0.out HB.out) | (with_reducible refine Kd.C_alloc ?_ _) | (with_reducible refine Kd.C_drewN ?_ _) | (with_reducible refine Kd.C_drew ?_))); (case side2 => exact HC0.out); rintro e w73 ⟨rfl, hb⟩; refine ⟨_, rfl, ?_⟩; have n0_ := Aside0.mk (blk_below (g := gb498) (o := .cells #[.int .i64 a2_0, .int .i64 a2_1] 24 (0, 0)) (by (with_reducible repeat (first | refine blk_drewN ?_ _ | refine blk_drew ?_ | refine blk_alloc ?_ _)); exact BK498.out) hb); have n1_ := Aside0.mk (below_step (by repeat (first | (with_reducible first | exact HB.out | apply below_alloc | apply pw_below_drewN | apply below_drew1 | refine below_set ?_ GE498.out) | exact HB.out)) hb); clear BK498; clear HB; have BK498 := n0_; have HB := n1_; clear n0_ n1_; (try clear hb); (try clear hb2); (try clear hk); (try clear hi); have hcz74_0 : w73.cell? ⟨gb498, 0, none⟩ = some (.int .i64 a2_0) := (blk_cell BK498.out 0).trans rfl; have hcz74_1 : w73.cell? ⟨gb498, 1, none⟩ = some (.int .i64 a2_1) := (blk_cell BK498.out 1).trans rfl; have hfz74_0 := blk_frozen BK498.out 0; have hfz74_1 := blk_frozen BK498.out 1) | (go_at_call 42; (with_reducible refine (redpencillaw12_before.calls _ _ l0 a2_0 a2_1 0 9 true _ ?side1 ?side2 A59.out).mono ?_); (case side1 => repeat (first | exact (Kd.C_below HR0.out HB.out) | (with_reducible refine Kd.C_alloc ?_ _) | (with_reducible refine Kd.C_drewN ?_ _) | (with_reducible refine Kd.C_drew ?_))); (case side2 => exact HC0.out); rintro e w75 ⟨rfl, hb⟩; have n0_ := Aside0.mk (blk_below (g := gb498) (o := .cells #[.int .i64 a2_0, .int .i64 a2_1] 24 (0, 0)) (by (with_reducible repeat (first | refine blk_drewN ?_ _ | refine blk_drew ?_ | refine blk_alloc ?_ _)); exact BK498.out) hb); have n1_ := Aside0.mk (below_step (by repeat (first | (with_reducible first | exact HB.out | apply below_alloc | apply pw_below_drewN | apply below_drew1 | refine below_set ?_ GE498.out) | exact HB.out)) hb); clear BK498; clear HB; have BK498 := n0_; have HB := n1_; clear n0_ n1_; (try clear hb); (try clear hb2); (try clear hk); (try clear hi); have hcz76_0 : w75.cell? ⟨gb498, 0, none⟩ = some (.int .i64 a2_0) := (blk_cell BK498.out 0).trans rfl; have hcz76_1 : w75.cell? ⟨gb498, 1, none⟩ = some (.int .i64 a2_1) := (blk_cell BK498.out 1).trans rfl; have hfz76_0 := blk_frozen BK498.out 0; have hfz76_1 := blk_frozen BK498.out 1) | (go_at_call 42; (with_reducible refine (redpencillaw12_before.calls _ _ l0 a2_0 a2_1 t519 0 false _ ?side1 ?side2 A62.out).mono ?_); (case side1 => repeat (first | exact (Kd.C_below HR0.out HB.out) | (with_reducible refine Kd.C_alloc ?_ _) | (with_reducible refine Kd.C_drewN ?_ _) | (with_reducible refine Kd.C_drew ?_))); (case side2 => exact HC0.out); rintro e w77 ⟨rfl, hb⟩; have n0_ := Aside0.mk (blk_below (g := gb498) (o := .cells #[.int .i64 a2_0, .int .i64 a2_1] 24 (0, 0)) (by (with_reducible repeat (first | refine blk_drewN ?_ _ | refine blk_drew ?_ | refine blk_alloc ?_ _)); exact BK498.out) hb); have n1_ := Aside0.mk (below_step (by repeat (first | (with_reducible first | exact HB.out | apply below_alloc | apply pw_below_drewN | apply below_drew1 | refine below_set ?_ GE498.out) | exact HB.out)) hb); clear BK498; clear HB; have BK498 := n0_; have HB := n1_; clear n0_ n1_; (try clear hb); (try clear hb2); (try clear hk); (try clear hi)))
               go_ret
               exact ⟨by first | rfl | (simp [errW_none, errW_some] <;> rfl) | (simp [*, errW_none, errW_some] <;> rfl), by repeat (first | (with_reducible first | exact HB.out | apply below_alloc | apply pw_below_drewN | apply below_drew1 | refine below_set ?_ GE498.out) | exact HB.out)⟩
             ·
              rw [if_neg c61] at H
              have c61b0 : decide (0 ≤ t519) = false := decide_eq_false c61
              clear c61
              replace H := Option.bind_eq_some_iff.mp H
              obtain ⟨t523, A780, H⟩ := H
              replace H : (some t523) = some r := H
              have A78 := Aside0.mk A780
              clear A780
              obtain rfl := Option.some.inj H
              have hcz79_0 : wc.cell? ⟨gb498, 0, none⟩ = some (.int .i64 a2_0) := (blk_cell BK498.out 0).trans rfl
              have hcz79_1 : wc.cell? ⟨gb498, 1, none⟩ = some (.int .i64 a2_1) := (blk_cell BK498.out 1).trans rfl
              have hfz79_0 := blk_frozen BK498.out 0
              have hfz79_1 := blk_frozen BK498.out 1
              go_wp2_with (first | ((with_reducible refine gate_callee (f := 45) rfl ?_); refine goesL_ (some 95) rfl rfl Tryz.func45 (by kernel_rfl) rfl #[.slice A0 l0.length c0, .agg #[.int .i64 a2_0, .int .i64 a2_1]] rfl (by (try simp only [List.map_toArray, List.map_cons, List.map_nil]); first | done | rfl | (simp only [List.length_drop, List.length_take]; rfl)) ?_; (with_reducible refine (redpencilref12_Before.calls kj33 _ _ l0 a2_0 a2_1 t519 _ ?side1 ?side2 A57.out).mono ?_); (case side1 => repeat (first | exact (Kd.C_below HR0.out HB.out) | (with_reducible refine Kd.C_alloc ?_ _) | (with_reducible refine Kd.C_drewN ?_ _) | (with_reducible refine Kd.C_drew ?_))); (case side2 => exact HC0.out); rintro e w80 ⟨rfl, hb⟩; refine ⟨_, rfl, ?_⟩; have n0_ := Aside0.mk (blk_below (g := gb498) (o := .cells #[.int .i64 a2_0, .int .i64 a2_1] 24 (0, 0)) (by (with_reducible repeat (first | refine blk_drewN ?_ _ | refine blk_drew ?_ | refine blk_alloc ?_ _)); exact BK498.out) hb); have n1_ := Aside0.mk (below_step (by repeat (first | (with_reducible first | exact HB.out | apply below_alloc | apply pw_below_drewN | apply below_drew1 | refine below_set ?_ GE498.out) | exact HB.out)) hb); clear BK498; clear HB; have BK498 := n0_; have HB := n1_; clear n0_ n1_; (try clear hb); (try clear hb2); (try clear hk); (try clear hi); have hcz81_0 : w80.cell? ⟨gb498, 0, none⟩ = some (.int .i64 a2_0) := (blk_cell BK498.out 0).trans rfl; have hcz81_1 : w80.cell? ⟨gb498, 1, none⟩ = some (.int .i64 a2_1) := (blk_cell BK498.out 1).trans rfl; have hfz81_0 := blk_frozen BK498.out 0; have hfz81_1 := blk_frozen BK498.out 1) | (go_at_call 42; (with_reducible refine (redpencillaw12_before.calls _ _ l0 a2_0 a2_1 0 9 true _ ?side1 ?side2 A59.out).mono ?_); (case side1 => repeat (first | exact (Kd.C_below HR0.out HB.out) | (with_reducible refine Kd.C_alloc ?_ _) | (with_reducible refine Kd.C_drewN ?_ _) | (with_reducible refine Kd.C_drew ?_))); (case side2 => exact HC0.out); rintro e w82 ⟨rfl, hb⟩; have n0_ := Aside0.mk (blk_below (g := gb498) (o := .cells #[.int .i64 a2_0, .int .i64 a2_1] 24 (0, 0)) (by (with_reducible repeat (first | refine blk_drewN ?_ _ | refine blk_drew ?_ | refine blk_alloc ?_ _)); exact BK498.out) hb); have n1_ := Aside0.mk (below_step (by repeat (first | (with_reducible first | exact HB.out | apply below_alloc | apply pw_below_drewN | apply below_drew1 | refine below_set ?_ GE498.out) | exact HB.out)) hb); clear BK498; clear HB; have BK498 := n0_; have HB := n1_; clear n0_ n1_; (try clear hb); (try clear hb2); (try clear hk); (try clear hi)) | ((with_reducible refine gate_callee (f := 34) rfl ?_); refine goesL_ (some 115) rfl rfl Tryz.func34 (by kernel_rfl) rfl #[] rfl (by (try simp only [List.map_toArray, List.map_cons, List.map_nil]); first | done | rfl | (simp only [List.length_drop, List.length_take]; rfl)) ?_; (with_reducible refine (redpencillaw12_known.calls  t523 _ A78.out).mono ?_); rintro e w83 ⟨rfl, hb⟩; refine ⟨_, rfl, ?_⟩; have n0_ := Aside0.mk (blk_below (g := gb498) (o := .cells #[.int .i64 a2_0, .int .i64 a2_1] 24 (0, 0)) (by (with_reducible repeat (first | refine blk_drewN ?_ _ | refine blk_drew ?_ | refine blk_alloc ?_ _)); exact BK498.out) hb); have n1_ := Aside0.mk (below_step (by repeat (first | (with_reducible first | exact HB.out | apply below_alloc | apply pw_below_drewN | apply below_drew1 | refine below_set ?_ GE498.out) | exact HB.out)) hb); clear BK498; clear HB; have BK498 := n0_; have HB := n1_; clear n0_ n1_; (try clear hb); (try clear hb2); (try clear hk); (try clear hi)))
              go_ret
              exact ⟨by first | rfl | (simp [errW_none, errW_some] <;> rfl) | (simp [*, errW_none, errW_some] <;> rfl), by repeat (first | (with_reducible first | exact HB.out | apply below_alloc | apply pw_below_drewN | apply below_drew1 | refine below_set ?_ GE498.out) | exact HB.out)⟩
            ·
             replace c60 := Bool.eq_false_iff.mpr c60
             subst c60
             have H1 : (some false) = some r := by rw [if_neg (show ¬ (false = true) by decide)] at H; exact H
             clear H
             have H := H1
             clear H1
             obtain rfl := Option.some.inj H
             have hcz84_0 : wc.cell? ⟨gb498, 0, none⟩ = some (.int .i64 a2_0) := (blk_cell BK498.out 0).trans rfl
             have hcz84_1 : wc.cell? ⟨gb498, 1, none⟩ = some (.int .i64 a2_1) := (blk_cell BK498.out 1).trans rfl
             have hfz84_0 := blk_frozen BK498.out 0
             have hfz84_1 := blk_frozen BK498.out 1
             go_wp2_with (first | ((with_reducible refine gate_callee (f := 45) rfl ?_); refine goesL_ (some 95) rfl rfl Tryz.func45 (by kernel_rfl) rfl #[.slice A0 l0.length c0, .agg #[.int .i64 a2_0, .int .i64 a2_1]] rfl (by (try simp only [List.map_toArray, List.map_cons, List.map_nil]); first | done | rfl | (simp only [List.length_drop, List.length_take]; rfl)) ?_; (with_reducible refine (redpencilref12_Before.calls kj33 _ _ l0 a2_0 a2_1 t519 _ ?side1 ?side2 A57.out).mono ?_); (case side1 => repeat (first | exact (Kd.C_below HR0.out HB.out) | (with_reducible refine Kd.C_alloc ?_ _) | (with_reducible refine Kd.C_drewN ?_ _) | (with_reducible refine Kd.C_drew ?_))); (case side2 => exact HC0.out); rintro e w85 ⟨rfl, hb⟩; refine ⟨_, rfl, ?_⟩; have n0_ := Aside0.mk (blk_below (g := gb498) (o := .cells #[.int .i64 a2_0, .int .i64 a2_1] 24 (0, 0)) (by (with_reducible repeat (first | refine blk_drewN ?_ _ | refine blk_drew ?_ | refine blk_alloc ?_ _)); exact BK498.out) hb); have n1_ := Aside0.mk (below_step (by repeat (first | (with_reducible first | exact HB.out | apply below_alloc | apply pw_below_drewN | apply below_drew1 | refine below_set ?_ GE498.out) | exact HB.out)) hb); clear BK498; clear HB; have BK498 := n0_; have HB := n1_; clear n0_ n1_; (try clear hb); (try clear hb2); (try clear hk); (try clear hi); have hcz86_0 : w85.cell? ⟨gb498, 0, none⟩ = some (.int .i64 a2_0) := (blk_cell BK498.out 0).trans rfl; have hcz86_1 : w85.cell? ⟨gb498, 1, none⟩ = some (.int .i64 a2_1) := (blk_cell BK498.out 1).trans rfl; have hfz86_0 := blk_frozen BK498.out 0; have hfz86_1 := blk_frozen BK498.out 1) | (go_at_call 42; (with_reducible refine (redpencillaw12_before.calls _ _ l0 a2_0 a2_1 0 9 false _ ?side1 ?side2 A59.out).mono ?_); (case side1 => repeat (first | exact (Kd.C_below HR0.out HB.out) | (with_reducible refine Kd.C_alloc ?_ _) | (with_reducible refine Kd.C_drewN ?_ _) | (with_reducible refine Kd.C_drew ?_))); (case side2 => exact HC0.out); rintro e w87 ⟨rfl, hb⟩; have n0_ := Aside0.mk (blk_below (g := gb498) (o := .cells #[.int .i64 a2_0, .int .i64 a2_1] 24 (0, 0)) (by (with_reducible repeat (first | refine blk_drewN ?_ _ | refine blk_drew ?_ | refine blk_alloc ?_ _)); exact BK498.out) hb); have n1_ := Aside0.mk (below_step (by repeat (first | (with_reducible first | exact HB.out | apply below_alloc | apply pw_below_drewN | apply below_drew1 | refine below_set ?_ GE498.out) | exact HB.out)) hb); clear BK498; clear HB; have BK498 := n0_; have HB := n1_; clear n0_ n1_; (try clear hb); (try clear hb2); (try clear hk); (try clear hi)))
             go_ret
             exact ⟨by first | rfl | (simp [errW_none, errW_some] <;> rfl) | (simp [*, errW_none, errW_some] <;> rfl), by repeat (first | (with_reducible first | exact HB.out | apply below_alloc | apply pw_below_drewN | apply below_drew1 | refine below_set ?_ GE498.out) | exact HB.out)⟩
           ·
            rw [if_neg c58] at H
            have c58b0 : decide (t519 < 0) = false := decide_eq_false c58
            clear c58
            by_cases c88 : t519 ≥ 0
            ·
             rw [if_pos c88] at H
             have c88b0 : decide (0 ≤ t519) = true := decide_eq_true c88
             clear c88
             replace H := Option.bind_eq_some_iff.mp H
             obtain ⟨t524, A890, H⟩ := H
             replace H : (if t524 = true then ((redpencillaw12_known.f).bind fun t525 => (some t525)) else (some false)) = some r := H
             have A89 := Aside0.mk A890
             clear A890
             by_cases c90 : t524 = true
             ·
              subst c90
              have H1 : ((redpencillaw12_known.f).bind fun t525 => (some t525)) = some r := by rw [if_pos rfl] at H; exact H
              clear H
              have H := H1
              clear H1
              replace H := Option.bind_eq_some_iff.mp H
              obtain ⟨t525, A910, H⟩ := H
              replace H : (some t525) = some r := H
              have A91 := Aside0.mk A910
              clear A910
              obtain rfl := Option.some.inj H
              have hcz92_0 : wc.cell? ⟨gb498, 0, none⟩ = some (.int .i64 a2_0) := (blk_cell BK498.out 0).trans rfl
              have hcz92_1 : wc.cell? ⟨gb498, 1, none⟩ = some (.int .i64 a2_1) := (blk_cell BK498.out 1).trans rfl
              have hfz92_0 := blk_frozen BK498.out 0
              have hfz92_1 := blk_frozen BK498.out 1
              go_wp2_with (first | ((with_reducible refine gate_callee (f := 45) rfl ?_); refine goesL_ (some 95) rfl rfl Tryz.func45 (by kernel_rfl) rfl #[.slice A0 l0.length c0, .agg #[.int .i64 a2_0, .int .i64 a2_1]] rfl (by (try simp only [List.map_toArray, List.map_cons, List.map_nil]); first | done | rfl | (simp only [List.length_drop, List.length_take]; rfl)) ?_; (with_reducible refine (redpencilref12_Before.calls kj33 _ _ l0 a2_0 a2_1 t519 _ ?side1 ?side2 A57.out).mono ?_); (case side1 => repeat (first | exact (Kd.C_below HR0.out HB.out) | (with_reducible refine Kd.C_alloc ?_ _) | (with_reducible refine Kd.C_drewN ?_ _) | (with_reducible refine Kd.C_drew ?_))); (case side2 => exact HC0.out); rintro e w93 ⟨rfl, hb⟩; refine ⟨_, rfl, ?_⟩; have n0_ := Aside0.mk (blk_below (g := gb498) (o := .cells #[.int .i64 a2_0, .int .i64 a2_1] 24 (0, 0)) (by (with_reducible repeat (first | refine blk_drewN ?_ _ | refine blk_drew ?_ | refine blk_alloc ?_ _)); exact BK498.out) hb); have n1_ := Aside0.mk (below_step (by repeat (first | (with_reducible first | exact HB.out | apply below_alloc | apply pw_below_drewN | apply below_drew1 | refine below_set ?_ GE498.out) | exact HB.out)) hb); clear BK498; clear HB; have BK498 := n0_; have HB := n1_; clear n0_ n1_; (try clear hb); (try clear hb2); (try clear hk); (try clear hi); have hcz94_0 : w93.cell? ⟨gb498, 0, none⟩ = some (.int .i64 a2_0) := (blk_cell BK498.out 0).trans rfl; have hcz94_1 : w93.cell? ⟨gb498, 1, none⟩ = some (.int .i64 a2_1) := (blk_cell BK498.out 1).trans rfl; have hfz94_0 := blk_frozen BK498.out 0; have hfz94_1 := blk_frozen BK498.out 1) | (go_at_call 42; (with_reducible refine (redpencillaw12_before.calls _ _ l0 a2_0 a2_1 t519 0 true _ ?side1 ?side2 A89.out).mono ?_); (case side1 => repeat (first | exact (Kd.C_below HR0.out HB.out) | (with_reducible refine Kd.C_alloc ?_ _) | (with_reducible refine Kd.C_drewN ?_ _) | (with_reducible refine Kd.C_drew ?_))); (case side2 => exact HC0.out); rintro e w95 ⟨rfl, hb⟩; have n0_ := Aside0.mk (blk_below (g := gb498) (o := .cells #[.int .i64 a2_0, .int .i64 a2_1] 24 (0, 0)) (by (with_reducible repeat (first | refine blk_drewN ?_ _ | refine blk_drew ?_ | refine blk_alloc ?_ _)); exact BK498.out) hb); have n1_ := Aside0.mk (below_step (by repeat (first | (with_reducible first | exact HB.out | apply below_alloc | apply pw_below_drewN | apply below_drew1 | refine below_set ?_ GE498.out) | exact HB.out)) hb); clear BK498; clear HB; have BK498 := n0_; have HB := n1_; clear n0_ n1_; (try clear hb); (try clear hb2); (try clear hk); (try clear hi)) | ((with_reducible refine gate_callee (f := 34) rfl ?_); refine goesL_ (some 115) rfl rfl Tryz.func34 (by kernel_rfl) rfl #[] rfl (by (try simp only [List.map_toArray, List.map_cons, List.map_nil]); first | done | rfl | (simp only [List.length_drop, List.length_take]; rfl)) ?_; (with_reducible refine (redpencillaw12_known.calls  t525 _ A91.out).mono ?_); rintro e w96 ⟨rfl, hb⟩; refine ⟨_, rfl, ?_⟩; have n0_ := Aside0.mk (blk_below (g := gb498) (o := .cells #[.int .i64 a2_0, .int .i64 a2_1] 24 (0, 0)) (by (with_reducible repeat (first | refine blk_drewN ?_ _ | refine blk_drew ?_ | refine blk_alloc ?_ _)); exact BK498.out) hb); have n1_ := Aside0.mk (below_step (by repeat (first | (with_reducible first | exact HB.out | apply below_alloc | apply pw_below_drewN | apply below_drew1 | refine below_set ?_ GE498.out) | exact HB.out)) hb); clear BK498; clear HB; have BK498 := n0_; have HB := n1_; clear n0_ n1_; (try clear hb); (try clear hb2); (try clear hk); (try clear hi)))
              go_ret
              exact ⟨by first | rfl | (simp [errW_none, errW_some] <;> rfl) | (simp [*, errW_none, errW_some] <;> rfl), by repeat (first | (with_reducible first | exact HB.out | apply below_alloc | apply pw_below_drewN | apply below_drew1 | refine below_set ?_ GE498.out) | exact HB.out)⟩
             ·
              replace c90 := Bool.eq_false_iff.mpr c90
              subst c90
              have H1 : (some false) = some r := by rw [if_neg (show ¬ (false = true) by decide)] at H; exact H
              clear H
              have H := H1
              clear H1
              obtain rfl := Option.some.inj H
              have hcz97_0 : wc.cell? ⟨gb498, 0, none⟩ = some (.int .i64 a2_0) := (blk_cell BK498.out 0).trans rfl
              have hcz97_1 : wc.cell? ⟨gb498, 1, none⟩ = some (.int .i64 a2_1) := (blk_cell BK498.out 1).trans rfl
              have hfz97_0 := blk_frozen BK498.out 0
              have hfz97_1 := blk_frozen BK498.out 1
              go_wp2_with (first | ((with_reducible refine gate_callee (f := 45) rfl ?_); refine goesL_ (some 95) rfl rfl Tryz.func45 (by kernel_rfl) rfl #[.slice A0 l0.length c0, .agg #[.int .i64 a2_0, .int .i64 a2_1]] rfl (by (try simp only [List.map_toArray, List.map_cons, List.map_nil]); first | done | rfl | (simp only [List.length_drop, List.length_take]; rfl)) ?_; (with_reducible refine (redpencilref12_Before.calls kj33 _ _ l0 a2_0 a2_1 t519 _ ?side1 ?side2 A57.out).mono ?_); (case side1 => repeat (first | exact (Kd.C_below HR0.out HB.out) | (with_reducible refine Kd.C_alloc ?_ _) | (with_reducible refine Kd.C_drewN ?_ _) | (with_reducible refine Kd.C_drew ?_))); (case side2 => exact HC0.out); rintro e w98 ⟨rfl, hb⟩; refine ⟨_, rfl, ?_⟩; have n0_ := Aside0.mk (blk_below (g := gb498) (o := .cells #[.int .i64 a2_0, .int .i64 a2_1] 24 (0, 0)) (by (with_reducible repeat (first | refine blk_drewN ?_ _ | refine blk_drew ?_ | refine blk_alloc ?_ _)); exact BK498.out) hb); have n1_ := Aside0.mk (below_step (by repeat (first | (with_reducible first | exact HB.out | apply below_alloc | apply pw_below_drewN | apply below_drew1 | refine below_set ?_ GE498.out) | exact HB.out)) hb); clear BK498; clear HB; have BK498 := n0_; have HB := n1_; clear n0_ n1_; (try clear hb); (try clear hb2); (try clear hk); (try clear hi); have hcz99_0 : w98.cell? ⟨gb498, 0, none⟩ = some (.int .i64 a2_0) := (blk_cell BK498.out 0).trans rfl; have hcz99_1 : w98.cell? ⟨gb498, 1, none⟩ = some (.int .i64 a2_1) := (blk_cell BK498.out 1).trans rfl; have hfz99_0 := blk_frozen BK498.out 0; have hfz99_1 := blk_frozen BK498.out 1) | (go_at_call 42; (with_reducible refine (redpencillaw12_before.calls _ _ l0 a2_0 a2_1 t519 0 false _ ?side1 ?side2 A89.out).mono ?_); (case side1 => repeat (first | exact (Kd.C_below HR0.out HB.out) | (with_reducible refine Kd.C_alloc ?_ _) | (with_reducible refine Kd.C_drewN ?_ _) | (with_reducible refine Kd.C_drew ?_))); (case side2 => exact HC0.out); rintro e w100 ⟨rfl, hb⟩; have n0_ := Aside0.mk (blk_below (g := gb498) (o := .cells #[.int .i64 a2_0, .int .i64 a2_1] 24 (0, 0)) (by (with_reducible repeat (first | refine blk_drewN ?_ _ | refine blk_drew ?_ | refine blk_alloc ?_ _)); exact BK498.out) hb); have n1_ := Aside0.mk (below_step (by repeat (first | (with_reducible first | exact HB.out | apply below_alloc | apply pw_below_drewN | apply below_drew1 | refine below_set ?_ GE498.out) | exact HB.out)) hb); clear BK498; clear HB; have BK498 := n0_; have HB := n1_; clear n0_ n1_; (try clear hb); (try clear hb2); (try clear hk); (try clear hi)))
              go_ret
              exact ⟨by first | rfl | (simp [errW_none, errW_some] <;> rfl) | (simp [*, errW_none, errW_some] <;> rfl), by repeat (first | (with_reducible first | exact HB.out | apply below_alloc | apply pw_below_drewN | apply below_drew1 | refine below_set ?_ GE498.out) | exact HB.out)⟩
            ·
             rw [if_neg c88] at H
             have c88b0 : decide (0 ≤ t519) = false := decide_eq_false c88
             clear c88
             replace H := Option.bind_eq_some_iff.mp H
             obtain ⟨t526, A1010, H⟩ := H
             replace H : (some t526) = some r := H
             have A101 := Aside0.mk A1010
             clear A1010
             obtain rfl := Option.some.inj H
             have hcz102_0 : wc.cell? ⟨gb498, 0, none⟩ = some (.int .i64 a2_0) := (blk_cell BK498.out 0).trans rfl
             have hcz102_1 : wc.cell? ⟨gb498, 1, none⟩ = some (.int .i64 a2_1) := (blk_cell BK498.out 1).trans rfl
             have hfz102_0 := blk_frozen BK498.out 0
             have hfz102_1 := blk_frozen BK498.out 1
             go_wp2_with (first | ((with_reducible refine gate_callee (f := 45) rfl ?_); refine goesL_ (some 95) rfl rfl Tryz.func45 (by kernel_rfl) rfl #[.slice A0 l0.length c0, .agg #[.int .i64 a2_0, .int .i64 a2_1]] rfl (by (try simp only [List.map_toArray, List.map_cons, List.map_nil]); first | done | rfl | (simp only [List.length_drop, List.length_take]; rfl)) ?_; (with_reducible refine (redpencilref12_Before.calls kj33 _ _ l0 a2_0 a2_1 t519 _ ?side1 ?side2 A57.out).mono ?_); (case side1 => repeat (first | exact (Kd.C_below HR0.out HB.out) | (with_reducible refine Kd.C_alloc ?_ _) | (with_reducible refine Kd.C_drewN ?_ _) | (with_reducible refine Kd.C_drew ?_))); (case side2 => exact HC0.out); rintro e w103 ⟨rfl, hb⟩; refine ⟨_, rfl, ?_⟩; have n0_ := Aside0.mk (blk_below (g := gb498) (o := .cells #[.int .i64 a2_0, .int .i64 a2_1] 24 (0, 0)) (by (with_reducible repeat (first | refine blk_drewN ?_ _ | refine blk_drew ?_ | refine blk_alloc ?_ _)); exact BK498.out) hb); have n1_ := Aside0.mk (below_step (by repeat (first | (with_reducible first | exact HB.out | apply below_alloc | apply pw_below_drewN | apply below_drew1 | refine below_set ?_ GE498.out) | exact HB.out)) hb); clear BK498; clear HB; have BK498 := n0_; have HB := n1_; clear n0_ n1_; (try clear hb); (try clear hb2); (try clear hk); (try clear hi)) | ((with_reducible refine gate_callee (f := 34) rfl ?_); refine goesL_ (some 115) rfl rfl Tryz.func34 (by kernel_rfl) rfl #[] rfl (by (try simp only [List.map_toArray, List.map_cons, List.map_nil]); first | done | rfl | (simp only [List.length_drop, List.length_take]; rfl)) ?_; (with_reducible refine (redpencillaw12_known.calls  t526 _ A101.out).mono ?_); rintro e w104 ⟨rfl, hb⟩; refine ⟨_, rfl, ?_⟩; have n0_ := Aside0.mk (blk_below (g := gb498) (o := .cells #[.int .i64 a2_0, .int .i64 a2_1] 24 (0, 0)) (by (with_reducible repeat (first | refine blk_drewN ?_ _ | refine blk_drew ?_ | refine blk_alloc ?_ _)); exact BK498.out) hb); have n1_ := Aside0.mk (below_step (by repeat (first | (with_reducible first | exact HB.out | apply below_alloc | apply pw_below_drewN | apply below_drew1 | refine below_set ?_ GE498.out) | exact HB.out)) hb); clear BK498; clear HB; have BK498 := n0_; have HB := n1_; clear n0_ n1_; (try clear hb); (try clear hb2); (try clear hk); (try clear hi)))
             go_ret
             exact ⟨by first | rfl | (simp [errW_none, errW_some] <;> rfl) | (simp [*, errW_none, errW_some] <;> rfl), by repeat (first | (with_reducible first | exact HB.out | apply below_alloc | apply pw_below_drewN | apply below_drew1 | refine below_set ?_ GE498.out) | exact HB.out)⟩
       ·
        replace c32 := Bool.eq_false_iff.mpr c32
        subst c32
        have H1 : ((redpencillaw12_of.f l0 a2_0 a2_1 0 2).bind fun t512 => (if t512 = true then ((redpencillaw12_before.f l0 a2_0 a2_1 0 2).bind fun t513 => (if t513 = true then ((redpencillaw12_known.f).bind fun t514 => (some t514)) else (some false))) else (some false))) = some r := by rw [if_neg (show ¬ (false = true) by decide)] at H; exact H
        clear H
        have H := H1
        clear H1
        replace H := Option.bind_eq_some_iff.mp H
        obtain ⟨t512, A1050, H⟩ := H
        replace H : (if t512 = true then ((redpencillaw12_before.f l0 a2_0 a2_1 0 2).bind fun t513 => (if t513 = true then ((redpencillaw12_known.f).bind fun t514 => (some t514)) else (some false))) else (some false)) = some r := H
        have A105 := Aside0.mk A1050
        clear A1050
        by_cases c106 : t512 = true
        ·
         subst c106
         have H1 : ((redpencillaw12_before.f l0 a2_0 a2_1 0 2).bind fun t513 => (if t513 = true then ((redpencillaw12_known.f).bind fun t514 => (some t514)) else (some false))) = some r := by rw [if_pos rfl] at H; exact H
         clear H
         have H := H1
         clear H1
         replace H := Option.bind_eq_some_iff.mp H
         obtain ⟨t513, A1070, H⟩ := H
         replace H : (if t513 = true then ((redpencillaw12_known.f).bind fun t514 => (some t514)) else (some false)) = some r := H
         have A107 := Aside0.mk A1070
         clear A1070
         by_cases c108 : t513 = true
         ·
          subst c108
          have H1 : ((redpencillaw12_known.f).bind fun t514 => (some t514)) = some r := by rw [if_pos rfl] at H; exact H
          clear H
          have H := H1
          clear H1
          replace H := Option.bind_eq_some_iff.mp H
          obtain ⟨t514, A1090, H⟩ := H
          replace H : (some t514) = some r := H
          have A109 := Aside0.mk A1090
          clear A1090
          obtain rfl := Option.some.inj H
          have hcz110_0 : wc.cell? ⟨gb498, 0, none⟩ = some (.int .i64 a2_0) := (blk_cell BK498.out 0).trans rfl
          have hcz110_1 : wc.cell? ⟨gb498, 1, none⟩ = some (.int .i64 a2_1) := (blk_cell BK498.out 1).trans rfl
          have hfz110_0 := blk_frozen BK498.out 0
          have hfz110_1 := blk_frozen BK498.out 1
          go_wp2_with (first | ((with_reducible refine gate_callee (f := 30) rfl ?_); refine goesL_ (some 58) rfl rfl Tryz.func30 (by kernel_rfl) rfl #[.agg #[.int .i64 a2_0, .int .i64 a2_1]] rfl (by (try simp only [List.map_toArray, List.map_cons, List.map_nil]); first | done | rfl | (simp only [List.length_drop, List.length_take]; rfl)) ?_; (with_reducible refine (redpencilref04_Valid.calls a2_0 a2_1 false _ A31.out).mono ?_); rintro e w111 ⟨rfl, hb⟩; refine ⟨_, rfl, ?_⟩; have n0_ := Aside0.mk (blk_below (g := gb498) (o := .cells #[.int .i64 a2_0, .int .i64 a2_1] 24 (0, 0)) (by (with_reducible repeat (first | refine blk_drewN ?_ _ | refine blk_drew ?_ | refine blk_alloc ?_ _)); exact BK498.out) hb); have n1_ := Aside0.mk (below_step (by repeat (first | (with_reducible first | exact HB.out | apply below_alloc | apply pw_below_drewN | apply below_drew1 | refine below_set ?_ GE498.out) | exact HB.out)) hb); clear BK498; clear HB; have BK498 := n0_; have HB := n1_; clear n0_ n1_; (try clear hb); (try clear hb2); (try clear hk); (try clear hi); have hcz112_0 : w111.cell? ⟨gb498, 0, none⟩ = some (.int .i64 a2_0) := (blk_cell BK498.out 0).trans rfl; have hcz112_1 : w111.cell? ⟨gb498, 1, none⟩ = some (.int .i64 a2_1) := (blk_cell BK498.out 1).trans rfl; have hfz112_0 := blk_frozen BK498.out 0; have hfz112_1 := blk_frozen BK498.out 1) | ((with_reducible refine gate_callee (f := 41) rfl ?_); refine goesL_ (some 62) rfl rfl Tryz.func41 (by kernel_rfl) rfl #[.slice A0 l0.length c0, .agg #[.int .i64 a2_0, .int .i64 a2_1], .int .i64 0, .int .i64 2] rfl (by (try simp only [List.map_toArray, List.map_cons, List.map_nil]); first | done | rfl | (simp only [List.length_drop, List.length_take]; rfl)) ?_; (with_reducible refine (redpencillaw12_of.calls _ _ l0 a2_0 a2_1 0 2 true _ ?side1 ?side2 A105.out).mono ?_); (case side1 => repeat (first | exact (Kd.C_below HR0.out HB.out) | (with_reducible refine Kd.C_alloc ?_ _) | (with_reducible refine Kd.C_drewN ?_ _) | (with_reducible refine Kd.C_drew ?_))); (case side2 => exact HC0.out); rintro e w113 ⟨rfl, hb⟩; refine ⟨_, rfl, ?_⟩; have n0_ := Aside0.mk (blk_below (g := gb498) (o := .cells #[.int .i64 a2_0, .int .i64 a2_1] 24 (0, 0)) (by (with_reducible repeat (first | refine blk_drewN ?_ _ | refine blk_drew ?_ | refine blk_alloc ?_ _)); exact BK498.out) hb); have n1_ := Aside0.mk (below_step (by repeat (first | (with_reducible first | exact HB.out | apply below_alloc | apply pw_below_drewN | apply below_drew1 | refine below_set ?_ GE498.out) | exact HB.out)) hb); clear BK498; clear HB; have BK498 := n0_; have HB := n1_; clear n0_ n1_; (try clear hb); (try clear hb2); (try clear hk); (try clear hi); have hcz114_0 : w113.cell? ⟨gb498, 0, none⟩ = some (.int .i64 a2_0) := (blk_cell BK498.out 0).trans rfl; have hcz114_1 : w113.cell? ⟨gb498, 1, none⟩ = some (.int .i64 a2_1) := (blk_cell BK498.out 1).trans rfl; have hfz114_0 := blk_frozen BK498.out 0; have hfz114_1 := blk_frozen BK498.out 1) | (go_at_call 42; (with_reducible refine (redpencillaw12_before.calls _ _ l0 a2_0 a2_1 0 2 true _ ?side1 ?side2 A107.out).mono ?_); (case side1 => repeat (first | exact (Kd.C_below HR0.out HB.out) | (with_reducible refine Kd.C_alloc ?_ _) | (with_reducible refine Kd.C_drewN ?_ _) | (with_reducible refine Kd.C_drew ?_))); (case side2 => exact HC0.out); rintro e w115 ⟨rfl, hb⟩; have n0_ := Aside0.mk (blk_below (g := gb498) (o := .cells #[.int .i64 a2_0, .int .i64 a2_1] 24 (0, 0)) (by (with_reducible repeat (first | refine blk_drewN ?_ _ | refine blk_drew ?_ | refine blk_alloc ?_ _)); exact BK498.out) hb); have n1_ := Aside0.mk (below_step (by repeat (first | (with_reducible first | exact HB.out | apply below_alloc | apply pw_below_drewN | apply below_drew1 | refine below_set ?_ GE498.out) | exact HB.out)) hb); clear BK498; clear HB; have BK498 := n0_; have HB := n1_; clear n0_ n1_; (try clear hb); (try clear hb2); (try clear hk); (try clear hi)) | (go_at_call 34; (with_reducible refine (redpencillaw12_known.calls  t514 _ A109.out).mono ?_); rintro e w116 ⟨rfl, hb⟩; have n0_ := Aside0.mk (blk_below (g := gb498) (o := .cells #[.int .i64 a2_0, .int .i64 a2_1] 24 (0, 0)) (by (with_reducible repeat (first | refine blk_drewN ?_ _ | refine blk_drew ?_ | refine blk_alloc ?_ _)); exact BK498.out) hb); have n1_ := Aside0.mk (below_step (by repeat (first | (with_reducible first | exact HB.out | apply below_alloc | apply pw_below_drewN | apply below_drew1 | refine below_set ?_ GE498.out) | exact HB.out)) hb); clear BK498; clear HB; have BK498 := n0_; have HB := n1_; clear n0_ n1_; (try clear hb); (try clear hb2); (try clear hk); (try clear hi)))
          go_ret
          exact ⟨by first | rfl | (simp [errW_none, errW_some] <;> rfl) | (simp [*, errW_none, errW_some] <;> rfl), by repeat (first | (with_reducible first | exact HB.out | apply below_alloc | apply pw_below_drewN | apply below_drew1 | refine below_set ?_ GE498.out) | exact HB.out)⟩
         ·
          replace c108 := Bool.eq_false_iff.mpr c108
          subst c108
          have H1 : (some false) = some r := by rw [if_neg (show ¬ (false = true) by decide)] at H; exact H
          clear H
          have H := H1
          clear H1
          obtain rfl := Option.some.inj H
          have hcz117_0 : wc.cell? ⟨gb498, 0, none⟩ = some (.int .i64 a2_0) := (blk_cell BK498.out 0).trans rfl
          have hcz117_1 : wc.cell? ⟨gb498, 1, none⟩ = some (.int .i64 a2_1) := (blk_cell BK498.out 1).trans rfl
          have hfz117_0 := blk_frozen BK498.out 0
          have hfz117_1 := blk_frozen BK498.out 1
          go_wp2_with (first | ((with_reducible refine gate_callee (f := 30) rfl ?_); refine goesL_ (some 58) rfl rfl Tryz.func30 (by kernel_rfl) rfl #[.agg #[.int .i64 a2_0, .int .i64 a2_1]] rfl (by (try simp only [List.map_toArray, List.map_cons, List.map_nil]); first | done | rfl | (simp only [List.length_drop, List.length_take]; rfl)) ?_; (with_reducible refine (redpencilref04_Valid.calls a2_0 a2_1 false _ A31.out).mono ?_); rintro e w118 ⟨rfl, hb⟩; refine ⟨_, rfl, ?_⟩; have n0_ := Aside0.mk (blk_below (g := gb498) (o := .cells #[.int .i64 a2_0, .int .i64 a2_1] 24 (0, 0)) (by (with_reducible repeat (first | refine blk_drewN ?_ _ | refine blk_drew ?_ | refine blk_alloc ?_ _)); exact BK498.out) hb); have n1_ := Aside0.mk (below_step (by repeat (first | (with_reducible first | exact HB.out | apply below_alloc | apply pw_below_drewN | apply below_drew1 | refine below_set ?_ GE498.out) | exact HB.out)) hb); clear BK498; clear HB; have BK498 := n0_; have HB := n1_; clear n0_ n1_; (try clear hb); (try clear hb2); (try clear hk); (try clear hi); have hcz119_0 : w118.cell? ⟨gb498, 0, none⟩ = some (.int .i64 a2_0) := (blk_cell BK498.out 0).trans rfl; have hcz119_1 : w118.cell? ⟨gb498, 1, none⟩ = some (.int .i64 a2_1) := (blk_cell BK498.out 1).trans rfl; have hfz119_0 := blk_frozen BK498.out 0; have hfz119_1 := blk_frozen BK498.out 1) | ((with_reducible refine gate_callee (f := 41) rfl ?_); refine goesL_ (some 62) rfl rfl Tryz.func41 (by kernel_rfl) rfl #[.slice A0 l0.length c0, .agg #[.int .i64 a2_0, .int .i64 a2_1], .int .i64 0, .int .i64 2] rfl (by (try simp only [List.map_toArray, List.map_cons, List.map_nil]); first | done | rfl | (simp only [List.length_drop, List.length_take]; rfl)) ?_; (with_reducible refine (redpencillaw12_of.calls _ _ l0 a2_0 a2_1 0 2 true _ ?side1 ?side2 A105.out).mono ?_); (case side1 => repeat (first | exact (Kd.C_below HR0.out HB.out) | (with_reducible refine Kd.C_alloc ?_ _) | (with_reducible refine Kd.C_drewN ?_ _) | (with_reducible refine Kd.C_drew ?_))); (case side2 => exact HC0.out); rintro e w120 ⟨rfl, hb⟩; refine ⟨_, rfl, ?_⟩; have n0_ := Aside0.mk (blk_below (g := gb498) (o := .cells #[.int .i64 a2_0, .int .i64 a2_1] 24 (0, 0)) (by (with_reducible repeat (first | refine blk_drewN ?_ _ | refine blk_drew ?_ | refine blk_alloc ?_ _)); exact BK498.out) hb); have n1_ := Aside0.mk (below_step (by repeat (first | (with_reducible first | exact HB.out | apply below_alloc | apply pw_below_drewN | apply below_drew1 | refine below_set ?_ GE498.out) | exact HB.out)) hb); clear BK498; clear HB; have BK498 := n0_; have HB := n1_; clear n0_ n1_; (try clear hb); (try clear hb2); (try clear hk); (try clear hi); have hcz121_0 : w120.cell? ⟨gb498, 0, none⟩ = some (.int .i64 a2_0) := (blk_cell BK498.out 0).trans rfl; have hcz121_1 : w120.cell? ⟨gb498, 1, none⟩ = some (.int .i64 a2_1) := (blk_cell BK498.out 1).trans rfl; have hfz121_0 := blk_frozen BK498.out 0; have hfz121_1 := blk_frozen BK498.out 1) | (go_at_call 42; (with_reducible refine (redpencillaw12_before.calls _ _ l0 a2_0 a2_1 0 2 false _ ?side1 ?side2 A107.out).mono ?_); (case side1 => repeat (first | exact (Kd.C_below HR0.out HB.out) | (with_reducible refine Kd.C_alloc ?_ _) | (with_reducible refine Kd.C_drewN ?_ _) | (with_reducible refine Kd.C_drew ?_))); (case side2 => exact HC0.out); rintro e w122 ⟨rfl, hb⟩; have n0_ := Aside0.mk (blk_below (g := gb498) (o := .cells #[.int .i64 a2_0, .int .i64 a2_1] 24 (0, 0)) (by (with_reducible repeat (first | refine blk_drewN ?_ _ | refine blk_drew ?_ | refine blk_alloc ?_ _)); exact BK498.out) hb); have n1_ := Aside0.mk (below_step (by repeat (first | (with_reducible first | exact HB.out | apply below_alloc | apply pw_below_drewN | apply below_drew1 | refine below_set ?_ GE498.out) | exact HB.out)) hb); clear BK498; clear HB; have BK498 := n0_; have HB := n1_; clear n0_ n1_; (try clear hb); (try clear hb2); (try clear hk); (try clear hi)))
          go_ret
          exact ⟨by first | rfl | (simp [errW_none, errW_some] <;> rfl) | (simp [*, errW_none, errW_some] <;> rfl), by repeat (first | (with_reducible first | exact HB.out | apply below_alloc | apply pw_below_drewN | apply below_drew1 | refine below_set ?_ GE498.out) | exact HB.out)⟩
        ·
         replace c106 := Bool.eq_false_iff.mpr c106
         subst c106
         have H1 : (some false) = some r := by rw [if_neg (show ¬ (false = true) by decide)] at H; exact H
         clear H
         have H := H1
         clear H1
         obtain rfl := Option.some.inj H
         have hcz123_0 : wc.cell? ⟨gb498, 0, none⟩ = some (.int .i64 a2_0) := (blk_cell BK498.out 0).trans rfl
         have hcz123_1 : wc.cell? ⟨gb498, 1, none⟩ = some (.int .i64 a2_1) := (blk_cell BK498.out 1).trans rfl
         have hfz123_0 := blk_frozen BK498.out 0
         have hfz123_1 := blk_frozen BK498.out 1
         go_wp2_with (first | ((with_reducible refine gate_callee (f := 30) rfl ?_); refine goesL_ (some 58) rfl rfl Tryz.func30 (by kernel_rfl) rfl #[.agg #[.int .i64 a2_0, .int .i64 a2_1]] rfl (by (try simp only [List.map_toArray, List.map_cons, List.map_nil]); first | done | rfl | (simp only [List.length_drop, List.length_take]; rfl)) ?_; (with_reducible refine (redpencilref04_Valid.calls a2_0 a2_1 false _ A31.out).mono ?_); rintro e w124 ⟨rfl, hb⟩; refine ⟨_, rfl, ?_⟩; have n0_ := Aside0.mk (blk_below (g := gb498) (o := .cells #[.int .i64 a2_0, .int .i64 a2_1] 24 (0, 0)) (by (with_reducible repeat (first | refine blk_drewN ?_ _ | refine blk_drew ?_ | refine blk_alloc ?_ _)); exact BK498.out) hb); have n1_ := Aside0.mk (below_step (by repeat (first | (with_reducible first | exact HB.out | apply below_alloc | apply pw_below_drewN | apply below_drew1 | refine below_set ?_ GE498.out) | exact HB.out)) hb); clear BK498; clear HB; have BK498 := n0_; have HB := n1_; clear n0_ n1_; (try clear hb); (try clear hb2); (try clear hk); (try clear hi); have hcz125_0 : w124.cell? ⟨gb498, 0, none⟩ = some (.int .i64 a2_0) := (blk_cell BK498.out 0).trans rfl; have hcz125_1 : w124.cell? ⟨gb498, 1, none⟩ = some (.int .i64 a2_1) := (blk_cell BK498.out 1).trans rfl; have hfz125_0 := blk_frozen BK498.out 0; have hfz125_1 := blk_frozen BK498.out 1) | ((with_reducible refine gate_callee (f := 41) rfl ?_); refine goesL_ (some 62) rfl rfl Tryz.func41 (by kernel_rfl) rfl #[.slice A0 l0.length c0, .agg #[.int .i64 a2_0, .int .i64 a2_1], .int .i64 0, .int .i64 2] rfl (by (try simp only [List.map_toArray, List.map_cons, List.map_nil]); first | done | rfl | (simp only [List.length_drop, List.length_take]; rfl)) ?_; (with_reducible refine (redpencillaw12_of.calls _ _ l0 a2_0 a2_1 0 2 false _ ?side1 ?side2 A105.out).mono ?_); (case side1 => repeat (first | exact (Kd.C_below HR0.out HB.out) | (with_reducible refine Kd.C_alloc ?_ _) | (with_reducible refine Kd.C_drewN ?_ _) | (with_reducible refine Kd.C_drew ?_))); (case side2 => exact HC0.out); rintro e w126 ⟨rfl, hb⟩; refine ⟨_, rfl, ?_⟩; have n0_ := Aside0.mk (blk_below (g := gb498) (o := .cells #[.int .i64 a2_0, .int .i64 a2_1] 24 (0, 0)) (by (with_reducible repeat (first | refine blk_drewN ?_ _ | refine blk_drew ?_ | refine blk_alloc ?_ _)); exact BK498.out) hb); have n1_ := Aside0.mk (below_step (by repeat (first | (with_reducible first | exact HB.out | apply below_alloc | apply pw_below_drewN | apply below_drew1 | refine below_set ?_ GE498.out) | exact HB.out)) hb); clear BK498; clear HB; have BK498 := n0_; have HB := n1_; clear n0_ n1_; (try clear hb); (try clear hb2); (try clear hk); (try clear hi)))
         go_ret
         exact ⟨by first | rfl | (simp [errW_none, errW_some] <;> rfl) | (simp [*, errW_none, errW_some] <;> rfl), by repeat (first | (with_reducible first | exact HB.out | apply below_alloc | apply pw_below_drewN | apply below_drew1 | refine below_set ?_ GE498.out) | exact HB.out)⟩
  ·
   replace c9 := Bool.eq_false_iff.mpr c9
   subst c9
   have H1 : ((redpencillaw12_sees.f k l0 a1 0 0 0 0 0 0 2).bind fun t501 => (if t501 = true then ((redpencillaw12_of.f l0 a2_0 a2_1 0 2).bind fun t502 => (if t502 = true then ((redpencillaw12_before.f l0 a2_0 a2_1 0 2).bind fun t503 => (if t503 = true then ((redpencillaw12_known.f).bind fun t504 => (some t504)) else (some false))) else (some false))) else (some false))) = some r := by rw [if_neg (show ¬ (false = true) by decide)] at H; exact H
   clear H
   have H := H1
   clear H1
   replace H := Option.bind_eq_some_iff.mp H
   obtain ⟨t501, A1270, H⟩ := H
   replace H : (if t501 = true then ((redpencillaw12_of.f l0 a2_0 a2_1 0 2).bind fun t502 => (if t502 = true then ((redpencillaw12_before.f l0 a2_0 a2_1 0 2).bind fun t503 => (if t503 = true then ((redpencillaw12_known.f).bind fun t504 => (some t504)) else (some false))) else (some false))) else (some false)) = some r := H
   have A127 := Aside0.mk A1270
   clear A1270
   by_cases c128 : t501 = true
   ·
    subst c128
    have H1 : ((redpencillaw12_of.f l0 a2_0 a2_1 0 2).bind fun t502 => (if t502 = true then ((redpencillaw12_before.f l0 a2_0 a2_1 0 2).bind fun t503 => (if t503 = true then ((redpencillaw12_known.f).bind fun t504 => (some t504)) else (some false))) else (some false))) = some r := by rw [if_pos rfl] at H; exact H
    clear H
    have H := H1
    clear H1
    replace H := Option.bind_eq_some_iff.mp H
    obtain ⟨t502, A1290, H⟩ := H
    replace H : (if t502 = true then ((redpencillaw12_before.f l0 a2_0 a2_1 0 2).bind fun t503 => (if t503 = true then ((redpencillaw12_known.f).bind fun t504 => (some t504)) else (some false))) else (some false)) = some r := H
    have A129 := Aside0.mk A1290
    clear A1290
    by_cases c130 : t502 = true
    ·
     subst c130
     have H1 : ((redpencillaw12_before.f l0 a2_0 a2_1 0 2).bind fun t503 => (if t503 = true then ((redpencillaw12_known.f).bind fun t504 => (some t504)) else (some false))) = some r := by rw [if_pos rfl] at H; exact H
     clear H
     have H := H1
     clear H1
     replace H := Option.bind_eq_some_iff.mp H
     obtain ⟨t503, A1310, H⟩ := H
     replace H : (if t503 = true then ((redpencillaw12_known.f).bind fun t504 => (some t504)) else (some false)) = some r := H
     have A131 := Aside0.mk A1310
     clear A1310
     by_cases c132 : t503 = true
     ·
      subst c132
      have H1 : ((redpencillaw12_known.f).bind fun t504 => (some t504)) = some r := by rw [if_pos rfl] at H; exact H
      clear H
      have H := H1
      clear H1
      replace H := Option.bind_eq_some_iff.mp H
      obtain ⟨t504, A1330, H⟩ := H
      replace H : (some t504) = some r := H
      have A133 := Aside0.mk A1330
      clear A1330
      obtain rfl := Option.some.inj H
      go_enter Tryz.func8, Tryz.ntmps8
      go_wp2_with (first | ((with_reducible refine gate_dst (N := 5) rfl ?_); (try (refine gate_guard (by rfl) ?_; dsimp only)); refine box_event ?hg (N := 5) ?hd (cs := #[.int .i64 a2_0, .int .i64 a2_1]) (t := 24) ?hr ?_; (case hd => rfl); (case hg => rfl); (case hr => first | (go_simp; done) | (go_simp; rfl)); intro gb498 hg w134 hbox hb; have n0_ := Aside0.mk (below_step (by repeat (first | (with_reducible first | exact HB.out | apply below_alloc | apply pw_below_drewN | apply below_drew1) | exact HB.out)) hb); have n1_ := Aside0.mk (hbox); have n2_ := Aside0.mk ((by rw [hg]; exact (below_size (by repeat (first | (with_reducible first | exact HB.out | apply below_alloc | apply pw_below_drewN | apply below_drew1) | exact HB.out))) : w.heap.size ≤ gb498)); have n3_ := Aside0.mk ((by rw [hg]; exact (below_size (by repeat (first | (with_reducible first | exact HB.out | apply below_alloc | apply pw_below_drewN | apply below_drew1) | exact HB.out))) : w.heap.size ≤ gb498)); clear HB; have HB := n0_; have BK498 := n1_; have GW498 := n2_; have GE498 := n3_; clear n0_ n1_ n2_ n3_; clear hb hbox hg) | ((with_reducible refine gate_callee (f := 14) rfl ?_); refine goesL_ (some 15) rfl rfl Tryz.func14 (by kernel_rfl) rfl #[.slice A0 l0.length c0] rfl (by (try simp only [List.map_toArray, List.map_cons, List.map_nil]); first | done | rfl | (simp only [List.length_drop, List.length_take]; rfl)) ?_; (with_reducible refine (redpencilref10_Valid.calls k _ _ l0 false _ ?side1 ?side2 A8.out).mono ?_); (case side1 => repeat (first | exact (Kd.C_below HR0.out HB.out) | (with_reducible refine Kd.C_alloc ?_ _) | (with_reducible refine Kd.C_drewN ?_ _) | (with_reducible refine Kd.C_drew ?_))); (case side2 => exact HC0.out); rintro e w135 ⟨rfl, hb⟩; refine ⟨_, rfl, ?_⟩; have n0_ := Aside0.mk (blk_below (g := gb498) (o := .cells #[.int .i64 a2_0, .int .i64 a2_1] 24 (0, 0)) (by (with_reducible repeat (first | refine blk_drewN ?_ _ | refine blk_drew ?_ | refine blk_alloc ?_ _)); exact BK498.out) hb); have n1_ := Aside0.mk (below_step (by repeat (first | (with_reducible first | exact HB.out | apply below_alloc | apply pw_below_drewN | apply below_drew1 | refine below_set ?_ GE498.out) | exact HB.out)) hb); clear BK498; clear HB; have BK498 := n0_; have HB := n1_; clear n0_ n1_; (try clear hb); (try clear hb2); (try clear hk); (try clear hi)) | ((with_reducible refine gate_callee (f := 40) rfl ?_); refine goesL_ (some 20) rfl rfl Tryz.func40 (by kernel_rfl) rfl #[.slice A0 l0.length c0, .int .i64 a1, .agg #[.int .i64 0, .int .i64 0, .int .i64 0, .int .i64 0, .int .i64 0, .int .i32 0], .int .i64 2] rfl (by (try simp only [List.map_toArray, List.map_cons, List.map_nil]); first | done | rfl | (simp only [List.length_drop, List.length_take]; rfl)) ?_; (with_reducible refine (redpencillaw12_sees.calls k _ _ l0 a1 0 0 0 0 0 0 2 true _ ?side1 ?side2 A127.out).mono ?_); (case side1 => repeat (first | exact (Kd.C_below HR0.out HB.out) | (with_reducible refine Kd.C_alloc ?_ _) | (with_reducible refine Kd.C_drewN ?_ _) | (with_reducible refine Kd.C_drew ?_))); (case side2 => exact HC0.out); rintro e w136 ⟨rfl, hb⟩; refine ⟨_, rfl, ?_⟩; have n0_ := Aside0.mk (blk_below (g := gb498) (o := .cells #[.int .i64 a2_0, .int .i64 a2_1] 24 (0, 0)) (by (with_reducible repeat (first | refine blk_drewN ?_ _ | refine blk_drew ?_ | refine blk_alloc ?_ _)); exact BK498.out) hb); have n1_ := Aside0.mk (below_step (by repeat (first | (with_reducible first | exact HB.out | apply below_alloc | apply pw_below_drewN | apply below_drew1 | refine below_set ?_ GE498.out) | exact HB.out)) hb); clear BK498; clear HB; have BK498 := n0_; have HB := n1_; clear n0_ n1_; (try clear hb); (try clear hb2); (try clear hk); (try clear hi); have hcz137_0 : w136.cell? ⟨gb498, 0, none⟩ = some (.int .i64 a2_0) := (blk_cell BK498.out 0).trans rfl; have hcz137_1 : w136.cell? ⟨gb498, 1, none⟩ = some (.int .i64 a2_1) := (blk_cell BK498.out 1).trans rfl; have hfz137_0 := blk_frozen BK498.out 0; have hfz137_1 := blk_frozen BK498.out 1) | (go_at_call 41; (with_reducible refine (redpencillaw12_of.calls _ _ l0 a2_0 a2_1 0 2 true _ ?side1 ?side2 A129.out).mono ?_); (case side1 => repeat (first | exact (Kd.C_below HR0.out HB.out) | (with_reducible refine Kd.C_alloc ?_ _) | (with_reducible refine Kd.C_drewN ?_ _) | (with_reducible refine Kd.C_drew ?_))); (case side2 => exact HC0.out); rintro e w138 ⟨rfl, hb⟩; have n0_ := Aside0.mk (blk_below (g := gb498) (o := .cells #[.int .i64 a2_0, .int .i64 a2_1] 24 (0, 0)) (by (with_reducible repeat (first | refine blk_drewN ?_ _ | refine blk_drew ?_ | refine blk_alloc ?_ _)); exact BK498.out) hb); have n1_ := Aside0.mk (below_step (by repeat (first | (with_reducible first | exact HB.out | apply below_alloc | apply pw_below_drewN | apply below_drew1 | refine below_set ?_ GE498.out) | exact HB.out)) hb); clear BK498; clear HB; have BK498 := n0_; have HB := n1_; clear n0_ n1_; (try clear hb); (try clear hb2); (try clear hk); (try clear hi); have hcz139_0 : w138.cell? ⟨gb498, 0, none⟩ = some (.int .i64 a2_0) := (blk_cell BK498.out 0).trans rfl; have hcz139_1 : w138.cell? ⟨gb498, 1, none⟩ = some (.int .i64 a2_1) := (blk_cell BK498.out 1).trans rfl; have hfz139_0 := blk_frozen BK498.out 0; have hfz139_1 := blk_frozen BK498.out 1) | (go_at_call 42; (with_reducible refine (redpencillaw12_before.calls _ _ l0 a2_0 a2_1 0 2 true _ ?side1 ?side2 A131.out).mono ?_); (case side1 => repeat (first | exact (Kd.C_below HR0.out HB.out) | (with_reducible refine Kd.C_alloc ?_ _) | (with_reducible refine Kd.C_drewN ?_ _) | (with_reducible refine Kd.C_drew ?_))); (case side2 => exact HC0.out); rintro e w140 ⟨rfl, hb⟩; have n0_ := Aside0.mk (blk_below (g := gb498) (o := .cells #[.int .i64 a2_0, .int .i64 a2_1] 24 (0, 0)) (by (with_reducible repeat (first | refine blk_drewN ?_ _ | refine blk_drew ?_ | refine blk_alloc ?_ _)); exact BK498.out) hb); have n1_ := Aside0.mk (below_step (by repeat (first | (with_reducible first | exact HB.out | apply below_alloc | apply pw_below_drewN | apply below_drew1 | refine below_set ?_ GE498.out) | exact HB.out)) hb); clear BK498; clear HB; have BK498 := n0_; have HB := n1_; clear n0_ n1_; (try clear hb); (try clear hb2); (try clear hk); (try clear hi)) | (go_at_call 34; (with_reducible refine (redpencillaw12_known.calls  t504 _ A133.out).mono ?_); rintro e w141 ⟨rfl, hb⟩; have n0_ := Aside0.mk (blk_below (g := gb498) (o := .cells #[.int .i64 a2_0, .int .i64 a2_1] 24 (0, 0)) (by (with_reducible repeat (first | refine blk_drewN ?_ _ | refine blk_drew ?_ | refine blk_alloc ?_ _)); exact BK498.out) hb); have n1_ := Aside0.mk (below_step (by repeat (first | (with_reducible first | exact HB.out | apply below_alloc | apply pw_below_drewN | apply below_drew1 | refine below_set ?_ GE498.out) | exact HB.out)) hb); clear BK498; clear HB; have BK498 := n0_; have HB := n1_; clear n0_ n1_; (try clear hb); (try clear hb2); (try clear hk); (try clear hi)))
      go_ret
      exact ⟨by first | rfl | (simp [errW_none, errW_some] <;> rfl) | (simp [*, errW_none, errW_some] <;> rfl), by repeat (first | (with_reducible first | exact HB.out | apply below_alloc | apply pw_below_drewN | apply below_drew1 | refine below_set ?_ GE498.out) | exact HB.out)⟩
     ·
      replace c132 := Bool.eq_false_iff.mpr c132
      subst c132
      have H1 : (some false) = some r := by rw [if_neg (show ¬ (false = true) by decide)] at H; exact H
      clear H
      have H := H1
      clear H1
      obtain rfl := Option.some.inj H
      go_enter Tryz.func8, Tryz.ntmps8
      go_wp2_with (first | ((with_reducible refine gate_dst (N := 5) rfl ?_); (try (refine gate_guard (by rfl) ?_; dsimp only)); refine box_event ?hg (N := 5) ?hd (cs := #[.int .i64 a2_0, .int .i64 a2_1]) (t := 24) ?hr ?_; (case hd => rfl); (case hg => rfl); (case hr => first | (go_simp; done) | (go_simp; rfl)); intro gb498 hg w142 hbox hb; have n0_ := Aside0.mk (below_step (by repeat (first | (with_reducible first | exact HB.out | apply below_alloc | apply pw_below_drewN | apply below_drew1) | exact HB.out)) hb); have n1_ := Aside0.mk (hbox); have n2_ := Aside0.mk ((by rw [hg]; exact (below_size (by repeat (first | (with_reducible first | exact HB.out | apply below_alloc | apply pw_below_drewN | apply below_drew1) | exact HB.out))) : w.heap.size ≤ gb498)); have n3_ := Aside0.mk ((by rw [hg]; exact (below_size (by repeat (first | (with_reducible first | exact HB.out | apply below_alloc | apply pw_below_drewN | apply below_drew1) | exact HB.out))) : w.heap.size ≤ gb498)); clear HB; have HB := n0_; have BK498 := n1_; have GW498 := n2_; have GE498 := n3_; clear n0_ n1_ n2_ n3_; clear hb hbox hg) | ((with_reducible refine gate_callee (f := 14) rfl ?_); refine goesL_ (some 15) rfl rfl Tryz.func14 (by kernel_rfl) rfl #[.slice A0 l0.length c0] rfl (by (try simp only [List.map_toArray, List.map_cons, List.map_nil]); first | done | rfl | (simp only [List.length_drop, List.length_take]; rfl)) ?_; (with_reducible refine (redpencilref10_Valid.calls k _ _ l0 false _ ?side1 ?side2 A8.out).mono ?_); (case side1 => repeat (first | exact (Kd.C_below HR0.out HB.out) | (with_reducible refine Kd.C_alloc ?_ _) | (with_reducible refine Kd.C_drewN ?_ _) | (with_reducible refine Kd.C_drew ?_))); (case side2 => exact HC0.out); rintro e w143 ⟨rfl, hb⟩; refine ⟨_, rfl, ?_⟩; have n0_ := Aside0.mk (blk_below (g := gb498) (o := .cells #[.int .i64 a2_0, .int .i64 a2_1] 24 (0, 0)) (by (with_reducible repeat (first | refine blk_drewN ?_ _ | refine blk_drew ?_ | refine blk_alloc ?_ _)); exact BK498.out) hb); have n1_ := Aside0.mk (below_step (by repeat (first | (with_reducible first | exact HB.out | apply below_alloc | apply pw_below_drewN | apply below_drew1 | refine below_set ?_ GE498.out) | exact HB.out)) hb); clear BK498; clear HB; have BK498 := n0_; have HB := n1_; clear n0_ n1_; (try clear hb); (try clear hb2); (try clear hk); (try clear hi)) | ((with_reducible refine gate_callee (f := 40) rfl ?_); refine goesL_ (some 20) rfl rfl Tryz.func40 (by kernel_rfl) rfl #[.slice A0 l0.length c0, .int .i64 a1, .agg #[.int .i64 0, .int .i64 0, .int .i64 0, .int .i64 0, .int .i64 0, .int .i32 0], .int .i64 2] rfl (by (try simp only [List.map_toArray, List.map_cons, List.map_nil]); first | done | rfl | (simp only [List.length_drop, List.length_take]; rfl)) ?_; (with_reducible refine (redpencillaw12_sees.calls k _ _ l0 a1 0 0 0 0 0 0 2 true _ ?side1 ?side2 A127.out).mono ?_); (case side1 => repeat (first | exact (Kd.C_below HR0.out HB.out) | (with_reducible refine Kd.C_alloc ?_ _) | (with_reducible refine Kd.C_drewN ?_ _) | (with_reducible refine Kd.C_drew ?_))); (case side2 => exact HC0.out); rintro e w144 ⟨rfl, hb⟩; refine ⟨_, rfl, ?_⟩; have n0_ := Aside0.mk (blk_below (g := gb498) (o := .cells #[.int .i64 a2_0, .int .i64 a2_1] 24 (0, 0)) (by (with_reducible repeat (first | refine blk_drewN ?_ _ | refine blk_drew ?_ | refine blk_alloc ?_ _)); exact BK498.out) hb); have n1_ := Aside0.mk (below_step (by repeat (first | (with_reducible first | exact HB.out | apply below_alloc | apply pw_below_drewN | apply below_drew1 | refine below_set ?_ GE498.out) | exact HB.out)) hb); clear BK498; clear HB; have BK498 := n0_; have HB := n1_; clear n0_ n1_; (try clear hb); (try clear hb2); (try clear hk); (try clear hi); have hcz145_0 : w144.cell? ⟨gb498, 0, none⟩ = some (.int .i64 a2_0) := (blk_cell BK498.out 0).trans rfl; have hcz145_1 : w144.cell? ⟨gb498, 1, none⟩ = some (.int .i64 a2_1) := (blk_cell BK498.out 1).trans rfl; have hfz145_0 := blk_frozen BK498.out 0; have hfz145_1 := blk_frozen BK498.out 1) | (go_at_call 41; (with_reducible refine (redpencillaw12_of.calls _ _ l0 a2_0 a2_1 0 2 true _ ?side1 ?side2 A129.out).mono ?_); (case side1 => repeat (first | exact (Kd.C_below HR0.out HB.out) | (with_reducible refine Kd.C_alloc ?_ _) | (with_reducible refine Kd.C_drewN ?_ _) | (with_reducible refine Kd.C_drew ?_))); (case side2 => exact HC0.out); rintro e w146 ⟨rfl, hb⟩; have n0_ := Aside0.mk (blk_below (g := gb498) (o := .cells #[.int .i64 a2_0, .int .i64 a2_1] 24 (0, 0)) (by (with_reducible repeat (first | refine blk_drewN ?_ _ | refine blk_drew ?_ | refine blk_alloc ?_ _)); exact BK498.out) hb); have n1_ := Aside0.mk (below_step (by repeat (first | (with_reducible first | exact HB.out | apply below_alloc | apply pw_below_drewN | apply below_drew1 | refine below_set ?_ GE498.out) | exact HB.out)) hb); clear BK498; clear HB; have BK498 := n0_; have HB := n1_; clear n0_ n1_; (try clear hb); (try clear hb2); (try clear hk); (try clear hi); have hcz147_0 : w146.cell? ⟨gb498, 0, none⟩ = some (.int .i64 a2_0) := (blk_cell BK498.out 0).trans rfl; have hcz147_1 : w146.cell? ⟨gb498, 1, none⟩ = some (.int .i64 a2_1) := (blk_cell BK498.out 1).trans rfl; have hfz147_0 := blk_frozen BK498.out 0; have hfz147_1 := blk_frozen BK498.out 1) | (go_at_call 42; (with_reducible refine (redpencillaw12_before.calls _ _ l0 a2_0 a2_1 0 2 false _ ?side1 ?side2 A131.out).mono ?_); (case side1 => repeat (first | exact (Kd.C_below HR0.out HB.out) | (with_reducible refine Kd.C_alloc ?_ _) | (with_reducible refine Kd.C_drewN ?_ _) | (with_reducible refine Kd.C_drew ?_))); (case side2 => exact HC0.out); rintro e w148 ⟨rfl, hb⟩; have n0_ := Aside0.mk (blk_below (g := gb498) (o := .cells #[.int .i64 a2_0, .int .i64 a2_1] 24 (0, 0)) (by (with_reducible repeat (first | refine blk_drewN ?_ _ | refine blk_drew ?_ | refine blk_alloc ?_ _)); exact BK498.out) hb); have n1_ := Aside0.mk (below_step (by repeat (first | (with_reducible first | exact HB.out | apply below_alloc | apply pw_below_drewN | apply below_drew1 | refine below_set ?_ GE498.out) | exact HB.out)) hb); clear BK498; clear HB; have BK498 := n0_; have HB := n1_; clear n0_ n1_; (try clear hb); (try clear hb2); (try clear hk); (try clear hi)))
      go_ret
      exact ⟨by first | rfl | (simp [errW_none, errW_some] <;> rfl) | (simp [*, errW_none, errW_some] <;> rfl), by repeat (first | (with_reducible first | exact HB.out | apply below_alloc | apply pw_below_drewN | apply below_drew1 | refine below_set ?_ GE498.out) | exact HB.out)⟩
    ·
     replace c130 := Bool.eq_false_iff.mpr c130
     subst c130
     have H1 : (some false) = some r := by rw [if_neg (show ¬ (false = true) by decide)] at H; exact H
     clear H
     have H := H1
     clear H1
     obtain rfl := Option.some.inj H
     go_enter Tryz.func8, Tryz.ntmps8
     go_wp2_with (first | ((with_reducible refine gate_dst (N := 5) rfl ?_); (try (refine gate_guard (by rfl) ?_; dsimp only)); refine box_event ?hg (N := 5) ?hd (cs := #[.int .i64 a2_0, .int .i64 a2_1]) (t := 24) ?hr ?_; (case hd => rfl); (case hg => rfl); (case hr => first | (go_simp; done) | (go_simp; rfl)); intro gb498 hg w149 hbox hb; have n0_ := Aside0.mk (below_step (by repeat (first | (with_reducible first | exact HB.out | apply below_alloc | apply pw_below_drewN | apply below_drew1) | exact HB.out)) hb); have n1_ := Aside0.mk (hbox); have n2_ := Aside0.mk ((by rw [hg]; exact (below_size (by repeat (first | (with_reducible first | exact HB.out | apply below_alloc | apply pw_below_drewN | apply below_drew1) | exact HB.out))) : w.heap.size ≤ gb498)); have n3_ := Aside0.mk ((by rw [hg]; exact (below_size (by repeat (first | (with_reducible first | exact HB.out | apply below_alloc | apply pw_below_drewN | apply below_drew1) | exact HB.out))) : w.heap.size ≤ gb498)); clear HB; have HB := n0_; have BK498 := n1_; have GW498 := n2_; have GE498 := n3_; clear n0_ n1_ n2_ n3_; clear hb hbox hg) | ((with_reducible refine gate_callee (f := 14) rfl ?_); refine goesL_ (some 15) rfl rfl Tryz.func14 (by kernel_rfl) rfl #[.slice A0 l0.length c0] rfl (by (try simp only [List.map_toArray, List.map_cons, List.map_nil]); first | done | rfl | (simp only [List.length_drop, List.length_take]; rfl)) ?_; (with_reducible refine (redpencilref10_Valid.calls k _ _ l0 false _ ?side1 ?side2 A8.out).mono ?_); (case side1 => repeat (first | exact (Kd.C_below HR0.out HB.out) | (with_reducible refine Kd.C_alloc ?_ _) | (with_reducible refine Kd.C_drewN ?_ _) | (with_reducible refine Kd.C_drew ?_))); (case side2 => exact HC0.out); rintro e w150 ⟨rfl, hb⟩; refine ⟨_, rfl, ?_⟩; have n0_ := Aside0.mk (blk_below (g := gb498) (o := .cells #[.int .i64 a2_0, .int .i64 a2_1] 24 (0, 0)) (by (with_reducible repeat (first | refine blk_drewN ?_ _ | refine blk_drew ?_ | refine blk_alloc ?_ _)); exact BK498.out) hb); have n1_ := Aside0.mk (below_step (by repeat (first | (with_reducible first | exact HB.out | apply below_alloc | apply pw_below_drewN | apply below_drew1 | refine below_set ?_ GE498.out) | exact HB.out)) hb); clear BK498; clear HB; have BK498 := n0_; have HB := n1_; clear n0_ n1_; (try clear hb); (try clear hb2); (try clear hk); (try clear hi)) | ((with_reducible refine gate_callee (f := 40) rfl ?_); refine goesL_ (some 20) rfl rfl Tryz.func40 (by kernel_rfl) rfl #[.slice A0 l0.length c0, .int .i64 a1, .agg #[.int .i64 0, .int .i64 0, .int .i64 0, .int .i64 0, .int .i64 0, .int .i32 0], .int .i64 2] rfl (by (try simp only [List.map_toArray, List.map_cons, List.map_nil]); first | done | rfl | (simp only [List.length_drop, List.length_take]; rfl)) ?_; (with_reducible refine (redpencillaw12_sees.calls k _ _ l0 a1 0 0 0 0 0 0 2 true _ ?side1 ?side2 A127.out).mono ?_); (case side1 => repeat (first | exact (Kd.C_below HR0.out HB.out) | (with_reducible refine Kd.C_alloc ?_ _) | (with_reducible refine Kd.C_drewN ?_ _) | (with_reducible refine Kd.C_drew ?_))); (case side2 => exact HC0.out); rintro e w151 ⟨rfl, hb⟩; refine ⟨_, rfl, ?_⟩; have n0_ := Aside0.mk (blk_below (g := gb498) (o := .cells #[.int .i64 a2_0, .int .i64 a2_1] 24 (0, 0)) (by (with_reducible repeat (first | refine blk_drewN ?_ _ | refine blk_drew ?_ | refine blk_alloc ?_ _)); exact BK498.out) hb); have n1_ := Aside0.mk (below_step (by repeat (first | (with_reducible first | exact HB.out | apply below_alloc | apply pw_below_drewN | apply below_drew1 | refine below_set ?_ GE498.out) | exact HB.out)) hb); clear BK498; clear HB; have BK498 := n0_; have HB := n1_; clear n0_ n1_; (try clear hb); (try clear hb2); (try clear hk); (try clear hi); have hcz152_0 : w151.cell? ⟨gb498, 0, none⟩ = some (.int .i64 a2_0) := (blk_cell BK498.out 0).trans rfl; have hcz152_1 : w151.cell? ⟨gb498, 1, none⟩ = some (.int .i64 a2_1) := (blk_cell BK498.out 1).trans rfl; have hfz152_0 := blk_frozen BK498.out 0; have hfz152_1 := blk_frozen BK498.out 1) | (go_at_call 41; (with_reducible refine (redpencillaw12_of.calls _ _ l0 a2_0 a2_1 0 2 false _ ?side1 ?side2 A129.out).mono ?_); (case side1 => repeat (first | exact (Kd.C_below HR0.out HB.out) | (with_reducible refine Kd.C_alloc ?_ _) | (with_reducible refine Kd.C_drewN ?_ _) | (with_reducible refine Kd.C_drew ?_))); (case side2 => exact HC0.out); rintro e w153 ⟨rfl, hb⟩; have n0_ := Aside0.mk (blk_below (g := gb498) (o := .cells #[.int .i64 a2_0, .int .i64 a2_1] 24 (0, 0)) (by (with_reducible repeat (first | refine blk_drewN ?_ _ | refine blk_drew ?_ | refine blk_alloc ?_ _)); exact BK498.out) hb); have n1_ := Aside0.mk (below_step (by repeat (first | (with_reducible first | exact HB.out | apply below_alloc | apply pw_below_drewN | apply below_drew1 | refine below_set ?_ GE498.out) | exact HB.out)) hb); clear BK498; clear HB; have BK498 := n0_; have HB := n1_; clear n0_ n1_; (try clear hb); (try clear hb2); (try clear hk); (try clear hi)))
     go_ret
     exact ⟨by first | rfl | (simp [errW_none, errW_some] <;> rfl) | (simp [*, errW_none, errW_some] <;> rfl), by repeat (first | (with_reducible first | exact HB.out | apply below_alloc | apply pw_below_drewN | apply below_drew1 | refine below_set ?_ GE498.out) | exact HB.out)⟩
   ·
    replace c128 := Bool.eq_false_iff.mpr c128
    subst c128
    have H1 : (some false) = some r := by rw [if_neg (show ¬ (false = true) by decide)] at H; exact H
    clear H
    have H := H1
    clear H1
    obtain rfl := Option.some.inj H
    go_enter Tryz.func8, Tryz.ntmps8
    go_wp2_with (first | ((with_reducible refine gate_dst (N := 5) rfl ?_); (try (refine gate_guard (by rfl) ?_; dsimp only)); refine box_event ?hg (N := 5) ?hd (cs := #[.int .i64 a2_0, .int .i64 a2_1]) (t := 24) ?hr ?_; (case hd => rfl); (case hg => rfl); (case hr => first | (go_simp; done) | (go_simp; rfl)); intro gb498 hg w154 hbox hb; have n0_ := Aside0.mk (below_step (by repeat (first | (with_reducible first | exact HB.out | apply below_alloc | apply pw_below_drewN | apply below_drew1) | exact HB.out)) hb); have n1_ := Aside0.mk (hbox); have n2_ := Aside0.mk ((by rw [hg]; exact (below_size (by repeat (first | (with_reducible first | exact HB.out | apply below_alloc | apply pw_below_drewN | apply below_drew1) | exact HB.out))) : w.heap.size ≤ gb498)); have n3_ := Aside0.mk ((by rw [hg]; exact (below_size (by repeat (first | (with_reducible first | exact HB.out | apply below_alloc | apply pw_below_drewN | apply below_drew1) | exact HB.out))) : w.heap.size ≤ gb498)); clear HB; have HB := n0_; have BK498 := n1_; have GW498 := n2_; have GE498 := n3_; clear n0_ n1_ n2_ n3_; clear hb hbox hg) | ((with_reducible refine gate_callee (f := 14) rfl ?_); refine goesL_ (some 15) rfl rfl Tryz.func14 (by kernel_rfl) rfl #[.slice A0 l0.length c0] rfl (by (try simp only [List.map_toArray, List.map_cons, List.map_nil]); first | done | rfl | (simp only [List.length_drop, List.length_take]; rfl)) ?_; (with_reducible refine (redpencilref10_Valid.calls k _ _ l0 false _ ?side1 ?side2 A8.out).mono ?_); (case side1 => repeat (first | exact (Kd.C_below HR0.out HB.out) | (with_reducible refine Kd.C_alloc ?_ _) | (with_reducible refine Kd.C_drewN ?_ _) | (with_reducible refine Kd.C_drew ?_))); (case side2 => exact HC0.out); rintro e w155 ⟨rfl, hb⟩; refine ⟨_, rfl, ?_⟩; have n0_ := Aside0.mk (blk_below (g := gb498) (o := .cells #[.int .i64 a2_0, .int .i64 a2_1] 24 (0, 0)) (by (with_reducible repeat (first | refine blk_drewN ?_ _ | refine blk_drew ?_ | refine blk_alloc ?_ _)); exact BK498.out) hb); have n1_ := Aside0.mk (below_step (by repeat (first | (with_reducible first | exact HB.out | apply below_alloc | apply pw_below_drewN | apply below_drew1 | refine below_set ?_ GE498.out) | exact HB.out)) hb); clear BK498; clear HB; have BK498 := n0_; have HB := n1_; clear n0_ n1_; (try clear hb); (try clear hb2); (try clear hk); (try clear hi)) | ((with_reducible refine gate_callee (f := 40) rfl ?_); refine goesL_ (some 20) rfl rfl Tryz.func40 (by kernel_rfl) rfl #[.slice A0 l0.length c0, .int .i64 a1, .agg #[.int .i64 0, .int .i64 0, .int .i64 0, .int .i64 0, .int .i64 0, .int .i32 0], .int .i64 2] rfl (by (try simp only [List.map_toArray, List.map_cons, List.map_nil]); first | done | rfl | (simp only [List.length_drop, List.length_take]; rfl)) ?_; (with_reducible refine (redpencillaw12_sees.calls k _ _ l0 a1 0 0 0 0 0 0 2 false _ ?side1 ?side2 A127.out).mono ?_); (case side1 => repeat (first | exact (Kd.C_below HR0.out HB.out) | (with_reducible refine Kd.C_alloc ?_ _) | (with_reducible refine Kd.C_drewN ?_ _) | (with_reducible refine Kd.C_drew ?_))); (case side2 => exact HC0.out); rintro e w156 ⟨rfl, hb⟩; refine ⟨_, rfl, ?_⟩; have n0_ := Aside0.mk (blk_below (g := gb498) (o := .cells #[.int .i64 a2_0, .int .i64 a2_1] 24 (0, 0)) (by (with_reducible repeat (first | refine blk_drewN ?_ _ | refine blk_drew ?_ | refine blk_alloc ?_ _)); exact BK498.out) hb); have n1_ := Aside0.mk (below_step (by repeat (first | (with_reducible first | exact HB.out | apply below_alloc | apply pw_below_drewN | apply below_drew1 | refine below_set ?_ GE498.out) | exact HB.out)) hb); clear BK498; clear HB; have BK498 := n0_; have HB := n1_; clear n0_ n1_; (try clear hb); (try clear hb2); (try clear hk); (try clear hi)))
    go_ret
    exact ⟨by first | rfl | (simp [errW_none, errW_some] <;> rfl) | (simp [*, errW_none, errW_some] <;> rfl), by repeat (first | (with_reducible first | exact HB.out | apply below_alloc | apply pw_below_drewN | apply below_drew1 | refine below_set ?_ GE498.out) | exact HB.out)⟩
end Go.Proofs.YtjlpaagnajmogaaGreat.PWalk
end
section
namespace Go.Proofs.YtjlpaagnajmogaaGreat.PWalk
open Go.RowKit Go.Proofs.YtjlpaagnajmogaaGreatW.PrintWords Go.Proofs.YtjlpaagnajmogaaGreatW.PrintLast Go.Proofs.YtjlpaagnajmogaaGreatW.PrintMore
set_option linter.unusedVariables false
set_option linter.unusedSimpArgs false
open Go.Shelf
attribute [local go_sem] Oper.semAt_some
theorem finds_j2 {ll : List Node} (hl : ll.length ≤ 40) (hs : storeOk ll = true) {d : Dot} (hd : dotOk d = true) (k : Nat) (hk : 61 ≤ k) : redpencillaw12_IndexFinds.j2 k ll false d.f0 d.f1 = some true := by
 obtain ⟨k, rfl⟩ : ∃ m, k = m + 1 := ⟨k - 1, by omega⟩
 simp only [redpencillaw12_IndexFinds.j2]
 rw [if_neg (by decide), refBefore_is hl hs d k (by omega)]
 simp only [Option.bind_some]
 by_cases h : idxFrom (dotIs d) (nds (ordOf ll)) < 0
 ·
  rw [if_pos h, if_pos (by omega), before_none hl hs hd h]
  simp only [Option.bind_some, if_true]
  rw [if_neg (by omega)]
  rfl
 ·
  rw [if_neg h, if_neg (by omega), if_pos (by omega), before_at hl hs hd h]
  rfl
theorem finds_j1 {ll : List Node} (hl : ll.length ≤ 40) (hs : storeOk ll = true) (d : Dot) (k : Nat) (hk : 62 ≤ k) : redpencillaw12_IndexFinds.j1 k ll d.f0 d.f1 = some true := by
 obtain ⟨k, rfl⟩ : ∃ m, k = m + 1 := ⟨k - 1, by omega⟩
 simp only [redpencillaw12_IndexFinds.j1]
 rw [refDot_is]
 simp only [Option.bind_some]
 by_cases hd : dotOk d = true
 ·
  rw [if_pos hd, refOf_is hl hs d k (by omega)]
  simp only [Option.bind_some]
  by_cases h : idxFrom (dotIs d) (visOf ll) < 0
  ·
   rw [if_pos h, of_none hl hs hd h]
   simp only [Option.bind_some, if_true]
   rw [if_neg (by omega)]
   exact finds_j2 hl hs hd k (by omega)
  ·
   rw [if_neg h, if_pos (by omega), of_at hl hs hd h]
   simp only [Option.bind_some]
   exact finds_j2 hl hs hd k (by omega)
 ·
  rw [if_neg hd, of_bad hl (fun h => hd h.2), before_bad hl (fun h => hd h.2)]
  rfl
theorem IndexFinds_is (l : List Node) (hw : ∀ x ∈ l, runeIn x.f3) (i : Int) (d : Dot) : redpencillaw12_IndexFinds.f 1000 l i d.f0 d.f1 = some true := by
 unfold redpencillaw12_IndexFinds.f
 by_cases h : (l.length : Int) > 40
 ·
  rw [if_pos h]; rfl
 rw [if_neg h, refValid_is l (by omega) hw 1000 (by omega)]
 simp only [Option.bind_some]
 by_cases hs : storeOk l = true
 ·
  have hv := vis_len hs
  rw [if_pos hs, visible_is (by omega) hs 1000 (by omega)]
  simp only [Option.bind_some]
  by_cases h0 : i < 0
  ·
   rw [if_pos h0]
   simp only [redpencillaw12_IndexFinds.j0]
   rw [if_pos trivial, sees_range (by omega) hs (.inl h0) (by omega)]
   simp only [Option.bind_some, if_true]
   exact finds_j1 (by omega) hs d 999 (by omega)
  ·
   rw [if_neg h0]
   simp only [redpencillaw12_IndexFinds.j0]
   by_cases h1 : i ≥ ((visOf l).length : Int)
   ·
    rw [if_pos (decide_eq_true h1), sees_range (by omega) hs (.inr h1) (by omega)]
    simp only [Option.bind_some, if_true]
    exact finds_j1 (by omega) hs d 999 (by omega)
   ·
    rw [if_neg (by rw [decide_eq_true_eq]; exact h1), if_pos (by omega), if_pos (by omega), sees_at (by omega) hs (by omega) (by omega) (by omega)]
    simp only [Option.bind_some, if_true]
    exact finds_j1 (by omega) hs d 999 (by omega)
 ·
  rw [if_neg hs, sees_bad (by omega) hs i (by omega), of_bad (by omega) (fun h => hs h.1), before_bad (by omega) (fun h => hs h.1)]
  rfl
theorem IndexFinds.walk (A0 : Option Addr) (c0 : Nat) (l0 : List Node) (w : World) (hr0 : Kd.C k35 w A0 l0.length l0) (hc0 : l0.length ≤ c0) (hi : ∀ x ∈ l0, runeIn x.f3) (a1 : Int) (w1 : (Lit.int .i64 a1).wf = true) (d : Dot) :
  Calls Tryz.prog 8 #[.slice A0 l0.length c0, .int .i64 a1, vDot d] w fun e w' => e = .returned (.bool true) ∧ Below w.heap.size w w' :=
 redpencillaw12_IndexFinds.calls 1000 A0 c0 l0 a1 d.f0 d.f1 true w hr0 hc0 (IndexFinds_is l0 hi a1 d)
end Go.Proofs.YtjlpaagnajmogaaGreat.PWalk
end
section
namespace Go.Proofs.YtjlpaagnajmogaaGreat.indexFinds
open Go.ChangeShapes Go.WideShapes Go.ChangeAt Go.RowKit
open Go.ChangeMaps (open_string shut_string)
open Go.Proofs.YtjlpaagnajmogaaGreatW.PrintWords
set_option linter.unusedVariables false
theorem six_of {α : Type} {cs : List α} (h : cs.length = 6) : ∃ c0 c1 c2 c3 c4 c5, cs = [c0, c1, c2, c3, c4, c5] := by
 match cs, h with
 | [a, b, c, d, e, f], _ => exact ⟨a, b, c, d, e, f, rfl⟩
theorem open_node {H : Type} {enc : TypeId × Value → H} {W : World} {base : Nat} {sp : Nat → Bool} {held : Bool} {fuel : Nat} {cs : List Value} {x : DataW H × List MemPlace} (h : DataW.trod enc Tryz.prog W base sp held fuel 35 cs = some x) :
  ∃ n : PWalk.Node, cs = PWalk.nodeCells n ∧ PWalk.runeIn n.f3 := by
 have e37 : Tryz.prog.cellsOf 35 = 6 := by kernel_rfl
 have e35 : Tryz.prog.cellsOf 24 = 2 := by kernel_rfl
 have e3 : Tryz.prog.cellsOf 3 = 1 := by kernel_rfl
 have e21 : Tryz.prog.cellsOf 21 = 1 := by kernel_rfl
 obtain ⟨y0, y1, y2, y3, n, rfl, hl, h0, h1, h2, h3⟩ := Go.Joins.trod_struct4 Tryz.underlying35 h
 rw [e37] at hl
 obtain ⟨c0, c1, c2, c3, c4, c5, rfl⟩ := six_of hl
 simp only [e35, e3, e21, List.drop_zero, List.drop_succ_cons, List.take_succ_cons, List.take_zero] at h0 h1 h2 h3
 obtain ⟨_, _, _, _, _, g0, g1⟩ := trod_struct2 Tryz.underlying24 h0
 obtain ⟨_, _, _, _, _, g2, g3⟩ := trod_struct2 Tryz.underlying24 h1
 simp only [e3, List.drop_zero, List.drop_succ_cons, List.take_succ_cons, List.take_zero] at g0 g1 g2 g3
 obtain ⟨k0, i0, _, _⟩ := DataW.trod_int Tryz.underlying3 g0
 obtain ⟨k1, i1, _, _⟩ := DataW.trod_int Tryz.underlying3 g1
 obtain ⟨k2, i2, _, _⟩ := DataW.trod_int Tryz.underlying3 g2
 obtain ⟨k3, i3, _, _⟩ := DataW.trod_int Tryz.underlying3 g3
 obtain ⟨k4, i4, _, _⟩ := DataW.trod_int Tryz.underlying3 h2
 obtain ⟨k5, i5, _, hw⟩ := DataW.trod_int Tryz.underlying21 h3
 simp only [List.cons.injEq, and_true] at i0 i1 i2 i3 i4 i5
 subst i0 i1 i2 i3 i4 i5
 refine ⟨⟨⟨k0, k1⟩, ⟨k2, k3⟩, k4, k5⟩, rfl, ?_⟩
 have hw2 : -2147483648 ≤ k5 ∧ k5 ≤ 2147483647 := by simpa [Lit.wf, IntKind.min, IntKind.max, IntKind.signed, IntKind.bits] using hw
 exact ⟨by show _ ≤ k5; omega, by show k5 ≤ _; omega⟩
/-- A []api.Node that came in, nil or not. -/
theorem open_nodes {H : Type} {enc : TypeId × Value → H} {W : World} {A : Option Addr} {len cap : Nat} {x : DataW H × List MemPlace} {fuel : Nat} (h : DataW.trod enc Tryz.prog W 0 (fun _ => true) true fuel 22 [.slice A len cap] = some x) :
  ∃ xs : List PWalk.Node, xs.length = len ∧ Kd.C PWalk.k35 W A len xs ∧ len ≤ cap ∧ ∀ n ∈ xs, PWalk.runeIn n.f3 := by
 have e37 : Tryz.prog.cellsOf 35 = 6 := by kernel_rfl
 rcases Go.Deep.open_slice Tryz.underlying22 h with ⟨hcs, _⟩ | ⟨a, len', cap', m, n, D, Pl, hcs, _, hl, hm, hmm, _, hx⟩
 ·
  simp at hcs
  obtain ⟨rfl, rfl, rfl⟩ := hcs
  exact ⟨[], rfl, ⟨rfl, by omega, fun hp => absurd hp (by omega)⟩, Nat.le_refl _, fun n hn => by cases hn⟩
 ·
  simp at hcs
  obtain ⟨rfl, rfl, rfl⟩ := hcs
  simp only [if_true] at hmm
  subst hmm
  rw [e37] at hx
  haveI : Inhabited PWalk.Node := ⟨⟨⟨0, 0⟩, ⟨0, 0⟩, 0, 0⟩⟩
  obtain ⟨N, hN⟩ := Go.Deep.choose_lt (α := PWalk.Node) (n := len) (p := fun i nd => PWalk.runeIn nd.f3 ∧ ∀ j u, (PWalk.nodeCells nd)[j]? = some u → W.cell? (a.add (i * 6 + j)) = some u) (fun i hi => by
   obtain ⟨cs', h1, h2⟩ := hx i (by omega)
   obtain ⟨nd, rfl, hr⟩ := open_node h2
   refine ⟨nd, hr, fun j u hu => ?_⟩
   obtain ⟨_, hlen, hc⟩ := World.cells?_some h1
   have hj : j < 6 := (List.getElem?_eq_some_iff.1 hu).1
   rw [← Addr.add_add a (i * 6) j]
   rw [← hu]
   exact hc j (by simpa using hj))
  refine ⟨(List.range len).map N, by simp, ⟨by simp, Nat.le_trans hl hm, fun hp => ⟨a, rfl, fun i nd hi => ?_⟩⟩, hl, fun nd hnd => ?_⟩
  ·
   have hil : i < len := by simpa using (List.getElem?_eq_some_iff.1 hi).1
   have hnd : nd = N i := by simpa [hil] using hi.symm
   subst hnd
   refine ⟨PWalk.nodeCells (N i), rfl, PWalk.k35.K_of_M (PWalk.k35_mkM W 0 (fun _ => True) (N i)), fun j u hu => (hN i hil).2 j u hu⟩
  ·
   obtain ⟨i, hi, rfl⟩ := List.mem_map.1 hnd
   exact (hN i (by simpa using hi)).1
set_option maxRecDepth 100000 in
/-- An api.Dot that came in by value: it is read the same in every world. -/
theorem open_dot {H : Type} {enc : TypeId × Value → H} {W : World} {r : Reach} {b0 base : Nat} {sp : Nat → Bool} {held : Bool} {v : Value} {d : DataW H} {p : List MemPlace} (hv : Value.okWide Tryz.prog W r b0 24 v) (h : DataW.Trod enc Tryz.prog W base sp held 24 v d p) :
  ∃ a : PWalk.Dot, v = .agg #[.int .i64 a.f0, .int .i64 a.f1] ∧ ∀ (W' : World) (base' : Nat) (sp' : Nat → Bool) (held' : Bool), DataW.Trod enc Tryz.prog W' base' sp' held' 24 v d p := by
 obtain ⟨v0, v1, y0, y1, n, rfl, rfl, rfl, h0, h1⟩ := Go.Joins.open_agg2 Tryz.underlying24 (by kernel_rfl) (by kernel_rfl) hv h
 obtain ⟨k0, i0, e0, w0⟩ := DataW.trod_int Tryz.underlying3 h0
 obtain ⟨k1, i1, e1, w1⟩ := DataW.trod_int Tryz.underlying3 h1
 simp only [List.cons.injEq, and_true] at i0 i1
 subst i0 i1 e0 e1
 refine ⟨⟨k0, k1⟩, rfl, fun W' base' sp' held' => ?_⟩
 exact Go.Joins.shut_agg2 Tryz.underlying24 (by kernel_rfl) (by kernel_rfl) (Go.Joins.field_of_Trod (shut_int Tryz.underlying3 w0) rfl) (Go.Joins.field_of_Trod (shut_int Tryz.underlying3 w1) rfl)
theorem own : ownKnob Tryz.prog.godebug = none := by kernel_rfl
theorem laidOut : laidOutB Tryz.prog = true := by kernel_rfl
set_option maxRecDepth 100000 in
set_option maxHeartbeats 2000000 in
theorem lifted (os : Os) (started : os.Started) (H : Type) (enc : TypeId × Value → H) :
  ReturnsInHanded {} Tryz.checked os 8 .any (Rows.indexFindsSpec.pre6 enc Tryz.prog Tryz.f8 Rows.indexFindsRow.domain false) (Rows.indexFindsSpec.post enc Tryz.prog Tryz.f8 false true false false) := by
 refine returnsInHanded_of_change_sized (C := Tryz.checked) own started (by kernel_rfl) Tryz.func8
  (ChangeSpec.witness6 (enc := enc) (C := Tryz.checked) false ⟨#[], #[.slice none 0 0, .int .i64 0, .agg #[.int .i64 0, .int .i64 0]], []⟩ 8 (by kernel_rfl) (by kernel_rfl) (by kernel_rfl) (by kernel_rfl)) ?_
 intro W base args ds gs before hval0 hW hcnd hsz0 _
 have hval : ∀ (j : Nat) t v, Tryz.f8.params[j]? = some t → args[j]? = some v → Value.okWide Tryz.prog W .any base t v := hval0
 have hW' := hW
 obtain ⟨p, q, hA0, hV, rfl, hfz, hnd⟩ := hW
 have hA : DataW.TrodAll enc Tryz.prog W 0 (fun _ => true) true Tryz.f8.params.toList args.toList ds p := hA0
 rw [Tryz.params8] at hA hval
 obtain ⟨v0, vs0, d0, ds0, p0, q0, hargs, rfl, rfl, h0, r0⟩ := trodAll_cons hA
 obtain ⟨v1, vs1, d1, ds1, p1, q1, rfl, rfl, rfl, h1, r1⟩ := trodAll_cons r0
 obtain ⟨v2, vs2, d2, ds2, p2, q2, rfl, rfl, rfl, h2, r2⟩ := trodAll_cons r1
 obtain ⟨rfl, rfl, rfl⟩ := trodAll_nil r2
 obtain rfl : args = #[v0, v1, v2] := by cases args; simp_all
 obtain ⟨rfl, rfl⟩ := trodVars_none hV
 obtain ⟨A0, len0, cap0, rfl⟩ := okWide_slice Tryz.underlying22 (hval 0 22 v0 rfl rfl)
 have k0 := h0
 have lt0 : ∀ x ∈ p0, x.block < W.heap.size := by obtain ⟨m, hm⟩ := k0; exact DataW.trod_lt m _ _ _ hm
 obtain ⟨f0, hf0⟩ := h0
 obtain ⟨xs0, rfl, hr0, hc0, hi0⟩ := open_nodes hf0
 obtain ⟨a1, rfl, rfl, rfl, w1⟩ := open_int Tryz.underlying3 (hval 1 3 v1 rfl rfl) h1
 obtain ⟨a2, rfl, w2⟩ := open_dot (hval 2 24 v2 rfl rfl) h2
 clear hA0 hval0 hsz0
 refine (PWalk.IndexFinds.walk A0 cap0 xs0 W hr0 hc0 hi0 a1 w1 a2).mono fun e W' ⟨he, bel⟩ => ?_
 subst he
 exact ⟨_, rfl, _, _, _, [], _, [], hW', trodAll_mk1 (shut_bool Tryz.underlying4 _), (trodAll_cons_mk (Below.trod laidOut (by kernel_rfl) (of_decide_eq_true (by kernel_rfl)) k0 bel lt0) (trodAll_cons_mk (shut_int Tryz.underlying3 w1) (trodAll_cons_mk (w2 _ _ _ _) trodAll_mk0))), rfl, bel.frame _, fun h => by cases h⟩
theorem over : Rows.indexFindsRow.holds Tryz.pinned (OpenSpec.ofChange Rows.indexFindsSpec) :=
 OpenClaim.holds_of_wide 8 Tryz.f8 rfl rfl rfl rfl rfl rfl rfl ⟨rfl, rfl, rfl, rfl, rfl⟩ rfl rfl rfl rfl rfl (by kernel_rfl) Tryz.func8 (by kernel_rfl)
  (of_decide_eq_true (by kernel_rfl)) (by unfold Func.isWrapper; first | (rw [if_pos (by decide +kernel)]; kernel_rfl) | (rw [if_neg (by decide +kernel)]; exact ⟨rfl, rfl⟩))
  (fun os started H enc _ => lifted os started H enc)
theorem proved : Rows.IndexFindsSaid := over
#print axioms proved
end Go.Proofs.YtjlpaagnajmogaaGreat.indexFinds
end
