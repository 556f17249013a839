/-
  Of inverts At, Before of a visible node is its index, Text has as many characters as Len says and those are Runes, and Dots of neighbouring parts, one after the other, is that of both; for every list of nodes and number. Part 6 of 8.
-/
import Derived.Test.YtjlpaagnajmogaaDoorVE
import Derived.StillTailTactics
import Derived.Maps.OwnOps
import Derived.IntWalk
import Derived.RangeFuncNested
import Derived.RangeFuncBound
import Derived.RangeFuncCalls
import Derived.RangeFuncLeaves
import Derived.Shelf.Abstract
import Derived.Shelf.RegionOpen
import Derived.OwnWalkIn
import Derived.TacticsInMore
import Derived.LoopNIn
import Derived.LoopIn
import Derived.RangeFuncBox
import Derived.Maps.AppendAt
import Derived.Lib.BufferMore
import Derived.Laws.CopyRow
import Derived.LoopTactic
import Derived.Outline
import Derived.WalkKit
import Derived.WalkLawsBesides
section
namespace Go.Proofs.YtjlpaagnajmogaaDoor.PWalk
open Go.RowKit Go.Proofs.YtjlpaagnajmogaaDoorW.PrintWords Go.Proofs.YtjlpaagnajmogaaDoorW.PrintLast Go.Proofs.YtjlpaagnajmogaaDoorW.PrintMore
set_option linter.unusedVariables false
set_option linter.unusedSimpArgs false
attribute [local go_sem high] eqA35
def redpencilref04_Same.l0 : Nat → List (S35) → List (S35) → Int → Option (Bool)
 | 0, _, _, _ => none
 | k + 1, x0, x1, x5 => if x5 < (x0.length : Int) then (if 0 ≤ x5 then (if x5 < (x1.length : Int) then (if (!(((rd_T35 x0 x5).f0) == ((rd_T35 x1 x5).f0)) || (!(((rd_T35 x0 x5).f1) == ((rd_T35 x1 x5).f1)))) = true then (some false) else (redpencilref04_Same.l0 k x0 x1 (wrap64 (x5 + 1)))) else (none)) else (none)) else (some true)
def redpencilref04_Same.f (k : Nat) (l0 : List (S35)) (l1 : List (S35)) : Option (Bool) := if (l0.length : Int) = (l1.length : Int) then (redpencilref04_Same.l0 k l0 l1 0) else (some false)
set_option maxHeartbeats 8000000 in
set_option maxRecDepth 100000 in
theorem redpencilref04_Same.calls (k : Nat) (A0 : Option Addr) (c0 : Nat) (l0 : List (S35)) (A1 : Option Addr) (c1 : Nat) (l1 : List (S35)) (r : Bool) (w : World) (hr0 : Kd.C k35 w A0 l0.length l0) (hc0 : l0.length ≤ c0) (hr1 : Kd.C k35 w A1 l1.length l1) (hc1 : l1.length ≤ c1) (h : redpencilref04_Same.f k l0 l1 = some r) :
  Calls Tryd.prog 61 #[.slice A0 l0.length c0, .slice A1 l1.length c1] w fun e w' => e = .returned (.bool r) ∧ Drawn0 w w' := by
 have hu35 := Tryd.underlying35
 have HR0 := Aside0.mk hr0
 have HC0 := Aside0.mk hc0
 clear hr0 hc0
 have HR1 := Aside0.mk hr1
 have HC1 := Aside0.mk hc1
 clear hr1 hc1
 have H : (if (l0.length : Int) = (l1.length : Int) then (redpencilref04_Same.l0 k l0 l1 0) else (some false)) = some r := h
 clear h
 by_cases c3 : (l0.length : Int) = (l1.length : Int)
 ·
  rw [if_pos c3] at H
  have c3b0 : ((l0.length : Int) == (l1.length : Int)) = true := beq_iff_eq.mpr c3
  have c3b1 : ((l0.length : Int) != (l1.length : Int)) = false := bne_eq_false_iff_eq.mpr c3
  have c3b2 : (l0.length == l1.length) = true := by first | simpa using c3 | (simp at c3 ⊢; omega)
  clear c3
  have H' := Aside0.mk H
  clear H
  go_enter Tryd.func61, Tryd.ntmps61
  go_wp2
  repeat (go_quiet (fail); try go_wp2)
  go_loopg [5] k (fun kq v5 w' => ∃ (x5_1 : Int), v5 = .int .i64 x5_1 ∧ Aside0 (redpencilref04_Same.l0 kq l0 l1 x5_1 = some r) ∧ Aside0 (kq ≤ k) ∧ Drawn0 w w')
  case atStart => exact ⟨(0), (by first | rfl | (simp; done) | (simp [*]; done)), H', ⟨Nat.le_refl _⟩, by repeat (first | exact Drawn0.refl _ | apply Drawn0.step)⟩
  case round =>
   clear H'
   try clear c1
   try clear p2
   try clear c3
   try clear c3b0
   try clear c3b1
   try clear c3b2
   obtain ⟨x5_1, rfl, HA, HK1, ⟨m1, rfl⟩⟩ := hrel
   cases gk with
   | zero => exact absurd HA.out (by simp [redpencilref04_Same.l0])
   | succ k1 =>
    have H := HA.out
    clear HA
    simp only [redpencilref04_Same.l0] at H
    by_cases c4 : x5_1 < (l0.length : Int)
    ·
     rw [if_pos c4] at H
     have c4b0 : decide (x5_1 < (l0.length : Int)) = true := decide_eq_true c4
     clear c4
     by_cases c5 : 0 ≤ x5_1
     ·
      rw [if_pos c5] at H
      have c5b0 : decide (0 ≤ x5_1) = true := decide_eq_true c5
      clear c5
      by_cases c6 : x5_1 < (l1.length : Int)
      ·
       rw [if_pos c6] at H
       have c6b0 : decide (x5_1 < (l1.length : Int)) = true := decide_eq_true c6
       clear c6
       by_cases c7 : (!(((rd_T35 l0 x5_1).f0) == ((rd_T35 l1 x5_1).f0)) || (!(((rd_T35 l0 x5_1).f1) == ((rd_T35 l1 x5_1).f1)))) = true
       ·
        rw [if_pos c7] at H
        have c7b0 : (!(((rd_T35 l0 x5_1).f0) == ((rd_T35 l1 x5_1).f0)) || (!(((rd_T35 l0 x5_1).f1) == ((rd_T35 l1 x5_1).f1)))) = true := c7
        clear c7
        obtain rfl := Option.some.inj H
        have p154 : 0 ≤ (x5_1 : Int) := of_decide_eq_true (by first | (with_reducible assumption) | assumption)
        have q154 : x5_1 < (l0.length : Int) := of_decide_eq_true (by first | (with_reducible assumption) | assumption)
        obtain ⟨ad154, e154, hx154_0, hx154_1⟩ := at_T35 HR0.out x5_1 p154 q154
        cases e154
        replace p154 := eq_true p154
        replace q154 := eq_true q154
        have p155 : 0 ≤ (x5_1 : Int) := of_decide_eq_true (by first | (with_reducible assumption) | assumption)
        have q155 : x5_1 < (l1.length : Int) := of_decide_eq_true (by first | (with_reducible assumption) | assumption)
        obtain ⟨ad155, e155, hx155_0, hx155_1⟩ := at_T35 HR1.out x5_1 p155 q155
        cases e155
        replace p155 := eq_true p155
        replace q155 := eq_true q155
        go_wp2
        repeat (go_quiet (fail); try go_wp2)
        go_ret
        exact ⟨by first | rfl | (simp; done) | (simp [*]; done), by repeat (first | exact Drawn0.refl _ | apply Drawn0.step)⟩
       ·
        rw [if_neg c7] at H
        have c7b0 : (!(((rd_T35 l0 x5_1).f0) == ((rd_T35 l1 x5_1).f0)) || (!(((rd_T35 l0 x5_1).f1) == ((rd_T35 l1 x5_1).f1)))) = false := by simpa using c7
        clear c7
        have H' := Aside0.mk H
        clear H
        have p154 : 0 ≤ (x5_1 : Int) := of_decide_eq_true (by first | (with_reducible assumption) | assumption)
        have q154 : x5_1 < (l0.length : Int) := of_decide_eq_true (by first | (with_reducible assumption) | assumption)
        obtain ⟨ad154, e154, hx154_0, hx154_1⟩ := at_T35 HR0.out x5_1 p154 q154
        cases e154
        replace p154 := eq_true p154
        replace q154 := eq_true q154
        have p155 : 0 ≤ (x5_1 : Int) := of_decide_eq_true (by first | (with_reducible assumption) | assumption)
        have q155 : x5_1 < (l1.length : Int) := of_decide_eq_true (by first | (with_reducible assumption) | assumption)
        obtain ⟨ad155, e155, hx155_0, hx155_1⟩ := at_T35 HR1.out x5_1 p155 q155
        cases e155
        replace p155 := eq_true p155
        replace q155 := eq_true q155
        go_wp2
        repeat (go_quiet (fail); try go_wp2)
        go_roundg k1
        case measure => have := HK1.out; omega
        case rel => exact ⟨(wrap64 (x5_1 + 1)), (by first | rfl | (simp; done) | (simp [*]; done)), H', ⟨by have := HK1.out; omega⟩, by repeat (first | exact Drawn0.refl _ | apply Drawn0.step)⟩
      ·
       rw [if_neg c6] at H
       exact absurd H (by simp)
     ·
      rw [if_neg c5] at H
      exact absurd H (by simp)
    ·
     rw [if_neg c4] at H
     have c4b0 : decide (x5_1 < (l0.length : Int)) = false := decide_eq_false c4
     clear c4
     obtain rfl := Option.some.inj H
     go_wp2
     repeat (go_quiet (fail); try go_wp2)
     go_ret
     exact ⟨by first | rfl | (simp; done) | (simp [*]; done), by repeat (first | exact Drawn0.refl _ | apply Drawn0.step)⟩
 ·
  rw [if_neg c3] at H
  have c3b0 : ((l0.length : Int) == (l1.length : Int)) = false := beq_eq_false_iff_ne.mpr c3
  have c3b1 : ((l0.length : Int) != (l1.length : Int)) = true := bne_iff_ne.mpr c3
  have c3b2 : (l0.length == l1.length) = false := by first | simpa using c3 | (simp at c3 ⊢; omega)
  obtain rfl := Option.some.inj H
  go_enter Tryd.func61, Tryd.ntmps61
  go_wp2
  repeat (go_quiet (fail); try go_wp2)
  go_ret
  exact ⟨by first | rfl | (simp; done) | (simp [*]; done), by repeat (first | exact Drawn0.refl _ | apply Drawn0.step)⟩
def redpencillaw12_dots.f (k : Nat) (l0 : List (S37)) (a1 : Int) (a2 : Int) (l3 : List (S35)) (a4 : Int) : Option (Bool) := (index_Dots.f l0 a1 a2).bind fun bt156 => ((redpencilref04_Same.f k bt156.1 l3).bind fun t160 => (if t160 = true then (some (bt156.2 == a4)) else (some false)))
set_option maxHeartbeats 8000000 in
set_option maxRecDepth 100000 in
theorem redpencillaw12_dots.calls (k : Nat) (A0 : Option Addr) (c0 : Nat) (l0 : List (S37)) (a1 : Int) (a2 : Int) (A3 : Option Addr) (c3 : Nat) (l3 : List (S35)) (a4 : Int) (r : Bool) (w : World) (hr0 : Kd.C k37 w A0 l0.length l0) (hc0 : l0.length ≤ c0) (hr3 : Kd.C k35 w A3 l3.length l3) (hc3 : l3.length ≤ c3) (h : redpencillaw12_dots.f k l0 a1 a2 l3 a4 = some r) :
  Calls Tryd.prog 31 #[.slice A0 l0.length c0, .int .i64 a1, .int .i64 a2, .slice A3 l3.length c3, .int .i64 a4] w fun e w' => e = .returned (.bool r) ∧ Below w.heap.size w w' := by
 have HR0 := Aside0.mk hr0
 have HC0 := Aside0.mk hc0
 clear hr0 hc0
 have HR3 := Aside0.mk hr3
 have HC3 := Aside0.mk hc3
 clear hr3 hc3
 have HB := Aside0.mk (Below.refl w.heap.size w)
 have H : ((index_Dots.f l0 a1 a2).bind fun bt156 => ((redpencilref04_Same.f k bt156.1 l3).bind fun t160 => (if t160 = true then (some (bt156.2 == a4)) else (some false)))) = some r := h
 clear h
 replace H := Option.bind_eq_some_iff.mp H
 obtain ⟨⟨t156, t157⟩, A60, H⟩ := H
 replace H : ((redpencilref04_Same.f k t156 l3).bind fun t160 => (if t160 = true then (some (t157 == a4)) else (some false))) = some r := H
 have A6 := Aside0.mk A60
 clear A60
 replace H := Option.bind_eq_some_iff.mp H
 obtain ⟨t160, A70, H⟩ := H
 replace H : (if t160 = true then (some (t157 == a4)) else (some false)) = some r := H
 have A7 := Aside0.mk A70
 clear A70
 by_cases c8 : t160 = true
 ·
  subst c8
  have H1 : (some (t157 == a4)) = some r := by rw [if_pos rfl] at H; exact H
  clear H
  have H := H1
  clear H1
  obtain rfl := Option.some.inj H
  go_enter Tryd.func31, Tryd.ntmps31
  go_wp2_with (first | ((with_reducible refine gate_callee (f := 30) rfl ?_); refine goesL_ (some 17) rfl rfl Tryd.func30 (by kernel_rfl) rfl #[.slice A0 l0.length c0, .int .i64 a1, .int .i64 a2] rfl (by (try simp only [List.map_toArray, List.map_cons, List.map_nil]); first | done | rfl | (simp only [List.length_drop, List.length_take]; rfl)) ?_; (with_reducible refine (index_Dots.calls _ _ l0 a1 a2 t156 t157 _ ?side1 ?side2 A6.out).mono ?_); (case side1 => repeat (first | exact HR0.out | (with_reducible refine Kd.C_alloc ?_ _) | (with_reducible refine Kd.C_drewN ?_ _) | (with_reducible refine Kd.C_drew ?_))); (case side2 => exact HC0.out); rintro e w9 ⟨v158, rfl, ho0, hb⟩; refine ⟨_, rfl, ?_⟩; have n0_ := Aside0.mk (Kd.R_lower ho0 (below_size (by repeat (first | (with_reducible first | exact HB.out | apply below_alloc | apply pw_below_drewN | apply below_drew1) | exact HB.out)))); have n1_ := Aside0.mk (below_step (by repeat (first | (with_reducible first | exact HB.out | apply below_alloc | apply pw_below_drewN | apply below_drew1) | exact HB.out)) hb); clear HB; have HO159 := n0_; have HB := n1_; clear n0_ n1_; (try clear hb); (try clear hb2); (try clear hk); (try clear hi); (try clear ho0); obtain ⟨Ao10, co10, eo10⟩ := Kd.R_slice HO159.out; subst eo10) | ((with_reducible refine gate_callee (f := 61) rfl ?_); refine goesL_ (some 22) rfl rfl Tryd.func61 (by kernel_rfl) rfl #[.slice Ao10 t156.length co10, .slice A3 l3.length c3] rfl (by (try simp only [List.map_toArray, List.map_cons, List.map_nil]); first | done | rfl | (simp only [List.length_drop, List.length_take]; rfl)) ?_; (with_reducible refine (redpencilref04_Same.calls k _ _ t156 _ _ l3 true _ ?side1 ?side2 ?side3 ?side4 A7.out).mono ?_); (case side1 => repeat (first | exact (Kd.R_reads' HO159.out).2.2 | (with_reducible refine Kd.C_alloc ?_ _) | (with_reducible refine Kd.C_drewN ?_ _) | (with_reducible refine Kd.C_drew ?_))); (case side2 => exact (Kd.R_reads' HO159.out).2.1); (case side3 => repeat (first | exact (Kd.C_below HR3.out HB.out) | (with_reducible refine Kd.C_alloc ?_ _) | (with_reducible refine Kd.C_drewN ?_ _) | (with_reducible refine Kd.C_drew ?_))); (case side4 => exact HC3.out); rintro e w' ⟨rfl, ⟨nd, rfl⟩⟩; refine ⟨_, rfl, ?_⟩))
  go_ret
  exact ⟨by first | rfl | (simp [errW_none, errW_some] <;> rfl) | (simp [*, errW_none, errW_some] <;> rfl), by repeat (first | (with_reducible first | exact HB.out | apply below_alloc | apply pw_below_drewN | apply below_drew1) | exact HB.out)⟩
 ·
  replace c8 := Bool.eq_false_iff.mpr c8
  subst c8
  have H1 : (some false) = some r := by rw [if_neg (show ¬ (false = true) by decide)] at H; exact H
  clear H
  have H := H1
  clear H1
  obtain rfl := Option.some.inj H
  go_enter Tryd.func31, Tryd.ntmps31
  go_wp2_with (first | ((with_reducible refine gate_callee (f := 30) rfl ?_); refine goesL_ (some 17) rfl rfl Tryd.func30 (by kernel_rfl) rfl #[.slice A0 l0.length c0, .int .i64 a1, .int .i64 a2] rfl (by (try simp only [List.map_toArray, List.map_cons, List.map_nil]); first | done | rfl | (simp only [List.length_drop, List.length_take]; rfl)) ?_; (with_reducible refine (index_Dots.calls _ _ l0 a1 a2 t156 t157 _ ?side1 ?side2 A6.out).mono ?_); (case side1 => repeat (first | exact HR0.out | (with_reducible refine Kd.C_alloc ?_ _) | (with_reducible refine Kd.C_drewN ?_ _) | (with_reducible refine Kd.C_drew ?_))); (case side2 => exact HC0.out); rintro e w11 ⟨v158, rfl, ho0, hb⟩; refine ⟨_, rfl, ?_⟩; have n0_ := Aside0.mk (Kd.R_lower ho0 (below_size (by repeat (first | (with_reducible first | exact HB.out | apply below_alloc | apply pw_below_drewN | apply below_drew1) | exact HB.out)))); have n1_ := Aside0.mk (below_step (by repeat (first | (with_reducible first | exact HB.out | apply below_alloc | apply pw_below_drewN | apply below_drew1) | exact HB.out)) hb); clear HB; have HO159 := n0_; have HB := n1_; clear n0_ n1_; (try clear hb); (try clear hb2); (try clear hk); (try clear hi); (try clear ho0); obtain ⟨Ao12, co12, eo12⟩ := Kd.R_slice HO159.out; subst eo12) | ((with_reducible refine gate_callee (f := 61) rfl ?_); refine goesL_ (some 22) rfl rfl Tryd.func61 (by kernel_rfl) rfl #[.slice Ao12 t156.length co12, .slice A3 l3.length c3] rfl (by (try simp only [List.map_toArray, List.map_cons, List.map_nil]); first | done | rfl | (simp only [List.length_drop, List.length_take]; rfl)) ?_; (with_reducible refine (redpencilref04_Same.calls k _ _ t156 _ _ l3 false _ ?side1 ?side2 ?side3 ?side4 A7.out).mono ?_); (case side1 => repeat (first | exact (Kd.R_reads' HO159.out).2.2 | (with_reducible refine Kd.C_alloc ?_ _) | (with_reducible refine Kd.C_drewN ?_ _) | (with_reducible refine Kd.C_drew ?_))); (case side2 => exact (Kd.R_reads' HO159.out).2.1); (case side3 => repeat (first | exact (Kd.C_below HR3.out HB.out) | (with_reducible refine Kd.C_alloc ?_ _) | (with_reducible refine Kd.C_drewN ?_ _) | (with_reducible refine Kd.C_drew ?_))); (case side4 => exact HC3.out); rintro e w' ⟨rfl, ⟨nd, rfl⟩⟩; refine ⟨_, rfl, ?_⟩))
  go_ret
  exact ⟨by first | rfl | (simp [errW_none, errW_some] <;> rfl) | (simp [*, errW_none, errW_some] <;> rfl), by repeat (first | (with_reducible first | exact HB.out | apply below_alloc | apply pw_below_drewN | apply below_drew1) | exact HB.out)⟩
def redpencillaw12_at.f (a0 : Int) (a1 : Int) : Option (Int × Int) := some (a0, a1)
set_option maxHeartbeats 8000000 in
set_option maxRecDepth 100000 in
theorem redpencillaw12_at.calls (a0 : Int) (a1 : Int) (r1 : Int) (r2 : Int) (w : World) (h : redpencillaw12_at.f a0 a1 = some (r1, r2)) :
  Calls Tryd.prog 52 #[.int .i64 a0, .int .i64 a1] w fun e w' => e = .returned (.agg #[.int .i64 r1, .int .i64 r2]) ∧ Below w.heap.size w w' := by
 have hu35 := Tryd.underlying35
 have HB := Aside0.mk (Below.refl w.heap.size w)
 have H : (some (a0, a1)) = some (r1, r2) := h
 clear h
 simp only [Option.some.injEq, Prod.mk.injEq] at H
 obtain ⟨rfl, rfl⟩ := H
 go_enter Tryd.func52, Tryd.ntmps52
 go_wp2_with (first | ((with_reducible refine gate_dst (N := 4) rfl ?_); refine box_event ?hg (N := 4) ?hd (cs := #[.int .i64 0, .int .i64 0]) (t := 35) ?hr ?_; (case hd => rfl); (case hg => rfl); (case hr => first | (go_simp; done) | (go_simp; rfl)); intro gb161 hg w3 hbox hb; have n0_ := Aside0.mk (below_step (by repeat (first | (with_reducible first | exact HB.out | apply below_alloc | apply pw_below_drewN | apply below_drew1) | exact HB.out)) hb); have n1_ := Aside0.mk (hbox); have n2_ := Aside0.mk ((by rw [hg]; exact (below_size (by repeat (first | (with_reducible first | exact HB.out | apply below_alloc | apply pw_below_drewN | apply below_drew1) | exact HB.out))) : w.heap.size ≤ gb161)); have n3_ := Aside0.mk ((by rw [hg]; exact (below_size (by repeat (first | (with_reducible first | exact HB.out | apply below_alloc | apply pw_below_drewN | apply below_drew1) | exact HB.out))) : w.heap.size ≤ gb161)); clear HB; have HB := n0_; have BK161 := n1_; have GW161 := n2_; have GE161 := n3_; clear n0_ n1_ n2_ n3_; clear hb hbox hg; have hcz4_0 : w3.cell? ⟨gb161, 0, none⟩ = some (.int .i64 0) := (blk_cell BK161.out 0).trans rfl; have hcz4_1 : w3.cell? ⟨gb161, 1, none⟩ = some (.int .i64 0) := (blk_cell BK161.out 1).trans rfl; have hfz4_0 := blk_frozen BK161.out 0; have hfz4_1 := blk_frozen BK161.out 1))
 refine bodyPost_ret (results_cell_row rfl _ _ gb161 35 #[.int .i64 a0, .int .i64 a1] (0, 0) _ rfl (by (with_reducible repeat (first | refine blk_drewN ?_ _ | refine blk_drew ?_ | refine blk_alloc ?_ _)); refine blk_put (cs := #[.int .i64 a0, .int .i64 0]) ?_ 1 _ rfl; (with_reducible repeat (first | refine blk_drewN ?_ _ | refine blk_drew ?_ | refine blk_alloc ?_ _)); refine blk_put (cs := #[.int .i64 0, .int .i64 0]) ?_ 0 _ rfl; (with_reducible repeat (first | refine blk_drewN ?_ _ | refine blk_drew ?_ | refine blk_alloc ?_ _)); exact BK161.out) Tryd.underlying35 rfl (by kernel_rfl)) rfl ?_
 exact ⟨by first | rfl | (simp [errW_none, errW_some] <;> rfl) | (simp [*, errW_none, errW_some] <;> rfl), by repeat (first | (with_reducible first | exact HB.out | apply below_alloc | apply pw_below_drewN | apply below_drew1 | refine below_set ?_ GE161.out) | exact HB.out)⟩
def redpencillaw12_given.f  : Option ((List (S37))) := (redpencillaw12_at.f 1 1).bind fun bt163 => ((redpencillaw12_at.f 1 2).bind fun bt165 => ((redpencillaw12_at.f 1 1).bind fun bt167 => ((redpencillaw12_at.f 2 2).bind fun bt169 => ((redpencillaw12_at.f 1 1).bind fun bt171 => ((redpencillaw12_at.f 2 3).bind fun bt173 => ((redpencillaw12_at.f 1 2).bind fun bt175 => ((redpencillaw12_at.f 1 4).bind fun bt177 => ((redpencillaw12_at.f 3 4).bind fun bt179 => ((redpencillaw12_at.f 9 9).bind fun bt181 => ((redpencillaw12_at.f 3 5).bind fun bt183 => ((redpencillaw12_at.f 3 6).bind fun bt185 => ((redpencillaw12_at.f 3 6).bind fun bt187 => ((redpencillaw12_at.f 3 5).bind fun bt189 => (some (([(⟨(⟨bt163.1, bt163.2⟩ : S35), (⟨0, 0⟩ : S35), 1, 97⟩ : S37), (⟨(⟨bt165.1, bt165.2⟩ : S35), (⟨bt167.1, bt167.2⟩ : S35), 2, 98⟩ : S37), (⟨(⟨bt169.1, bt169.2⟩ : S35), (⟨bt171.1, bt171.2⟩ : S35), 2, 0⟩ : S37), (⟨(⟨bt173.1, bt173.2⟩ : S35), (⟨bt175.1, bt175.2⟩ : S35), 3, 100⟩ : S37), (⟨(⟨bt177.1, bt177.2⟩ : S35), (⟨0, 0⟩ : S35), 4, 101⟩ : S37), (⟨(⟨bt179.1, bt179.2⟩ : S35), (⟨bt181.1, bt181.2⟩ : S35), 1, 102⟩ : S37), (⟨(⟨bt183.1, bt183.2⟩ : S35), (⟨bt185.1, bt185.2⟩ : S35), 1, 103⟩ : S37), (⟨(⟨bt187.1, bt187.2⟩ : S35), (⟨bt189.1, bt189.2⟩ : S35), 1, 104⟩ : S37)] : List (S37)))))))))))))))))
def redpencillaw12_given.T2 : Bool × List (List Nat × List Nat) := (true, [([], []), ([], []), ([0, 1], [0, 1]), ([0], []), ([3], []), ([3, 4], [3, 4]), ([4], []), ([6], []), ([6, 7], [6, 7]), ([7], []), ([9], []), ([9, 10], [9, 10]), ([10], []), ([], []), ([12, 13], [12, 13]), ([12], []), ([15], []), ([15, 16], [15, 16]), ([16], []), ([18], []), ([18, 19], [18, 19]), ([19], []), ([21], []), ([21, 22], [21, 22]), ([2, 5, 8, 11, 14, 17, 20, 23], [2, 5, 8, 11, 14, 17, 20, 23]), ([24, 22, 0, 1, 2, 3, 4, 5, 6, 7, 8, 9, 10, 11, 12, 13, 14, 15, 16, 17, 18, 19, 20, 21, 22, 23, 24], [24])])
def redpencillaw12_given.B2 : List Nat := [0, 0, 3, 1, 9, 25, 25, 89, 217, 217, 729, 1753, 1753, 0, 14041, 5849, 38617, 104153, 104153, 366297, 890585, 890585, 2987737, 7182041, 16777215, 33554431]
theorem redpencillaw12_given.tab2 : rtab .any (opsOf Tryd.f48 2) = redpencillaw12_given.T2 := by kernel_rfl
theorem redpencillaw12_given.bits2 : waitsOk redpencillaw12_given.T2.2 redpencillaw12_given.B2 = true := by kernel_rfl
set_option maxHeartbeats 8000000 in
set_option maxRecDepth 100000 in
theorem redpencillaw12_given.calls  (r : List (S37)) (w : World) (h : redpencillaw12_given.f  = some r) :
  Calls Tryd.prog 48 #[] w fun e w' => ∃ v0_ : Value, e = .returned (v0_) ∧ Kd.R k37 37 w' w.heap.size (fun _ => True) v0_ r ∧ Below w.heap.size w w' := by
 have hu35 := Tryd.underlying35
 have hu37 := Tryd.underlying37
 have HB := Aside0.mk (Below.refl w.heap.size w)
 have H : ((redpencillaw12_at.f 1 1).bind fun bt163 => ((redpencillaw12_at.f 1 2).bind fun bt165 => ((redpencillaw12_at.f 1 1).bind fun bt167 => ((redpencillaw12_at.f 2 2).bind fun bt169 => ((redpencillaw12_at.f 1 1).bind fun bt171 => ((redpencillaw12_at.f 2 3).bind fun bt173 => ((redpencillaw12_at.f 1 2).bind fun bt175 => ((redpencillaw12_at.f 1 4).bind fun bt177 => ((redpencillaw12_at.f 3 4).bind fun bt179 => ((redpencillaw12_at.f 9 9).bind fun bt181 => ((redpencillaw12_at.f 3 5).bind fun bt183 => ((redpencillaw12_at.f 3 6).bind fun bt185 => ((redpencillaw12_at.f 3 6).bind fun bt187 => ((redpencillaw12_at.f 3 5).bind fun bt189 => (some (([(⟨(⟨bt163.1, bt163.2⟩ : S35), (⟨0, 0⟩ : S35), 1, 97⟩ : S37), (⟨(⟨bt165.1, bt165.2⟩ : S35), (⟨bt167.1, bt167.2⟩ : S35), 2, 98⟩ : S37), (⟨(⟨bt169.1, bt169.2⟩ : S35), (⟨bt171.1, bt171.2⟩ : S35), 2, 0⟩ : S37), (⟨(⟨bt173.1, bt173.2⟩ : S35), (⟨bt175.1, bt175.2⟩ : S35), 3, 100⟩ : S37), (⟨(⟨bt177.1, bt177.2⟩ : S35), (⟨0, 0⟩ : S35), 4, 101⟩ : S37), (⟨(⟨bt179.1, bt179.2⟩ : S35), (⟨bt181.1, bt181.2⟩ : S35), 1, 102⟩ : S37), (⟨(⟨bt183.1, bt183.2⟩ : S35), (⟨bt185.1, bt185.2⟩ : S35), 1, 103⟩ : S37), (⟨(⟨bt187.1, bt187.2⟩ : S35), (⟨bt189.1, bt189.2⟩ : S35), 1, 104⟩ : S37)] : List (S37)))))))))))))))))) = some r := h
 clear h
 replace H := Option.bind_eq_some_iff.mp H
 obtain ⟨⟨t163, t164⟩, A10, H⟩ := H
 replace H : ((redpencillaw12_at.f 1 2).bind fun bt165 => ((redpencillaw12_at.f 1 1).bind fun bt167 => ((redpencillaw12_at.f 2 2).bind fun bt169 => ((redpencillaw12_at.f 1 1).bind fun bt171 => ((redpencillaw12_at.f 2 3).bind fun bt173 => ((redpencillaw12_at.f 1 2).bind fun bt175 => ((redpencillaw12_at.f 1 4).bind fun bt177 => ((redpencillaw12_at.f 3 4).bind fun bt179 => ((redpencillaw12_at.f 9 9).bind fun bt181 => ((redpencillaw12_at.f 3 5).bind fun bt183 => ((redpencillaw12_at.f 3 6).bind fun bt185 => ((redpencillaw12_at.f 3 6).bind fun bt187 => ((redpencillaw12_at.f 3 5).bind fun bt189 => (some (([(⟨(⟨t163, t164⟩ : S35), (⟨0, 0⟩ : S35), 1, 97⟩ : S37), (⟨(⟨bt165.1, bt165.2⟩ : S35), (⟨bt167.1, bt167.2⟩ : S35), 2, 98⟩ : S37), (⟨(⟨bt169.1, bt169.2⟩ : S35), (⟨bt171.1, bt171.2⟩ : S35), 2, 0⟩ : S37), (⟨(⟨bt173.1, bt173.2⟩ : S35), (⟨bt175.1, bt175.2⟩ : S35), 3, 100⟩ : S37), (⟨(⟨bt177.1, bt177.2⟩ : S35), (⟨0, 0⟩ : S35), 4, 101⟩ : S37), (⟨(⟨bt179.1, bt179.2⟩ : S35), (⟨bt181.1, bt181.2⟩ : S35), 1, 102⟩ : S37), (⟨(⟨bt183.1, bt183.2⟩ : S35), (⟨bt185.1, bt185.2⟩ : S35), 1, 103⟩ : S37), (⟨(⟨bt187.1, bt187.2⟩ : S35), (⟨bt189.1, bt189.2⟩ : S35), 1, 104⟩ : S37)] : List (S37))))))))))))))))) = some r := H
 have A1 := Aside0.mk A10
 clear A10
 replace H := Option.bind_eq_some_iff.mp H
 obtain ⟨⟨t165, t166⟩, A20, H⟩ := H
 replace H : ((redpencillaw12_at.f 1 1).bind fun bt167 => ((redpencillaw12_at.f 2 2).bind fun bt169 => ((redpencillaw12_at.f 1 1).bind fun bt171 => ((redpencillaw12_at.f 2 3).bind fun bt173 => ((redpencillaw12_at.f 1 2).bind fun bt175 => ((redpencillaw12_at.f 1 4).bind fun bt177 => ((redpencillaw12_at.f 3 4).bind fun bt179 => ((redpencillaw12_at.f 9 9).bind fun bt181 => ((redpencillaw12_at.f 3 5).bind fun bt183 => ((redpencillaw12_at.f 3 6).bind fun bt185 => ((redpencillaw12_at.f 3 6).bind fun bt187 => ((redpencillaw12_at.f 3 5).bind fun bt189 => (some (([(⟨(⟨t163, t164⟩ : S35), (⟨0, 0⟩ : S35), 1, 97⟩ : S37), (⟨(⟨t165, t166⟩ : S35), (⟨bt167.1, bt167.2⟩ : S35), 2, 98⟩ : S37), (⟨(⟨bt169.1, bt169.2⟩ : S35), (⟨bt171.1, bt171.2⟩ : S35), 2, 0⟩ : S37), (⟨(⟨bt173.1, bt173.2⟩ : S35), (⟨bt175.1, bt175.2⟩ : S35), 3, 100⟩ : S37), (⟨(⟨bt177.1, bt177.2⟩ : S35), (⟨0, 0⟩ : S35), 4, 101⟩ : S37), (⟨(⟨bt179.1, bt179.2⟩ : S35), (⟨bt181.1, bt181.2⟩ : S35), 1, 102⟩ : S37), (⟨(⟨bt183.1, bt183.2⟩ : S35), (⟨bt185.1, bt185.2⟩ : S35), 1, 103⟩ : S37), (⟨(⟨bt187.1, bt187.2⟩ : S35), (⟨bt189.1, bt189.2⟩ : S35), 1, 104⟩ : S37)] : List (S37)))))))))))))))) = some r := H
 have A2 := Aside0.mk A20
 clear A20
 replace H := Option.bind_eq_some_iff.mp H
 obtain ⟨⟨t167, t168⟩, A30, H⟩ := H
 replace H : ((redpencillaw12_at.f 2 2).bind fun bt169 => ((redpencillaw12_at.f 1 1).bind fun bt171 => ((redpencillaw12_at.f 2 3).bind fun bt173 => ((redpencillaw12_at.f 1 2).bind fun bt175 => ((redpencillaw12_at.f 1 4).bind fun bt177 => ((redpencillaw12_at.f 3 4).bind fun bt179 => ((redpencillaw12_at.f 9 9).bind fun bt181 => ((redpencillaw12_at.f 3 5).bind fun bt183 => ((redpencillaw12_at.f 3 6).bind fun bt185 => ((redpencillaw12_at.f 3 6).bind fun bt187 => ((redpencillaw12_at.f 3 5).bind fun bt189 => (some (([(⟨(⟨t163, t164⟩ : S35), (⟨0, 0⟩ : S35), 1, 97⟩ : S37), (⟨(⟨t165, t166⟩ : S35), (⟨t167, t168⟩ : S35), 2, 98⟩ : S37), (⟨(⟨bt169.1, bt169.2⟩ : S35), (⟨bt171.1, bt171.2⟩ : S35), 2, 0⟩ : S37), (⟨(⟨bt173.1, bt173.2⟩ : S35), (⟨bt175.1, bt175.2⟩ : S35), 3, 100⟩ : S37), (⟨(⟨bt177.1, bt177.2⟩ : S35), (⟨0, 0⟩ : S35), 4, 101⟩ : S37), (⟨(⟨bt179.1, bt179.2⟩ : S35), (⟨bt181.1, bt181.2⟩ : S35), 1, 102⟩ : S37), (⟨(⟨bt183.1, bt183.2⟩ : S35), (⟨bt185.1, bt185.2⟩ : S35), 1, 103⟩ : S37), (⟨(⟨bt187.1, bt187.2⟩ : S35), (⟨bt189.1, bt189.2⟩ : S35), 1, 104⟩ : S37)] : List (S37))))))))))))))) = some r := H
 have A3 := Aside0.mk A30
 clear A30
 replace H := Option.bind_eq_some_iff.mp H
 obtain ⟨⟨t169, t170⟩, A40, H⟩ := H
 replace H : ((redpencillaw12_at.f 1 1).bind fun bt171 => ((redpencillaw12_at.f 2 3).bind fun bt173 => ((redpencillaw12_at.f 1 2).bind fun bt175 => ((redpencillaw12_at.f 1 4).bind fun bt177 => ((redpencillaw12_at.f 3 4).bind fun bt179 => ((redpencillaw12_at.f 9 9).bind fun bt181 => ((redpencillaw12_at.f 3 5).bind fun bt183 => ((redpencillaw12_at.f 3 6).bind fun bt185 => ((redpencillaw12_at.f 3 6).bind fun bt187 => ((redpencillaw12_at.f 3 5).bind fun bt189 => (some (([(⟨(⟨t163, t164⟩ : S35), (⟨0, 0⟩ : S35), 1, 97⟩ : S37), (⟨(⟨t165, t166⟩ : S35), (⟨t167, t168⟩ : S35), 2, 98⟩ : S37), (⟨(⟨t169, t170⟩ : S35), (⟨bt171.1, bt171.2⟩ : S35), 2, 0⟩ : S37), (⟨(⟨bt173.1, bt173.2⟩ : S35), (⟨bt175.1, bt175.2⟩ : S35), 3, 100⟩ : S37), (⟨(⟨bt177.1, bt177.2⟩ : S35), (⟨0, 0⟩ : S35), 4, 101⟩ : S37), (⟨(⟨bt179.1, bt179.2⟩ : S35), (⟨bt181.1, bt181.2⟩ : S35), 1, 102⟩ : S37), (⟨(⟨bt183.1, bt183.2⟩ : S35), (⟨bt185.1, bt185.2⟩ : S35), 1, 103⟩ : S37), (⟨(⟨bt187.1, bt187.2⟩ : S35), (⟨bt189.1, bt189.2⟩ : S35), 1, 104⟩ : S37)] : List (S37)))))))))))))) = some r := H
 have A4 := Aside0.mk A40
 clear A40
 replace H := Option.bind_eq_some_iff.mp H
 obtain ⟨⟨t171, t172⟩, A50, H⟩ := H
 replace H : ((redpencillaw12_at.f 2 3).bind fun bt173 => ((redpencillaw12_at.f 1 2).bind fun bt175 => ((redpencillaw12_at.f 1 4).bind fun bt177 => ((redpencillaw12_at.f 3 4).bind fun bt179 => ((redpencillaw12_at.f 9 9).bind fun bt181 => ((redpencillaw12_at.f 3 5).bind fun bt183 => ((redpencillaw12_at.f 3 6).bind fun bt185 => ((redpencillaw12_at.f 3 6).bind fun bt187 => ((redpencillaw12_at.f 3 5).bind fun bt189 => (some (([(⟨(⟨t163, t164⟩ : S35), (⟨0, 0⟩ : S35), 1, 97⟩ : S37), (⟨(⟨t165, t166⟩ : S35), (⟨t167, t168⟩ : S35), 2, 98⟩ : S37), (⟨(⟨t169, t170⟩ : S35), (⟨t171, t172⟩ : S35), 2, 0⟩ : S37), (⟨(⟨bt173.1, bt173.2⟩ : S35), (⟨bt175.1, bt175.2⟩ : S35), 3, 100⟩ : S37), (⟨(⟨bt177.1, bt177.2⟩ : S35), (⟨0, 0⟩ : S35), 4, 101⟩ : S37), (⟨(⟨bt179.1, bt179.2⟩ : S35), (⟨bt181.1, bt181.2⟩ : S35), 1, 102⟩ : S37), (⟨(⟨bt183.1, bt183.2⟩ : S35), (⟨bt185.1, bt185.2⟩ : S35), 1, 103⟩ : S37), (⟨(⟨bt187.1, bt187.2⟩ : S35), (⟨bt189.1, bt189.2⟩ : S35), 1, 104⟩ : S37)] : List (S37))))))))))))) = some r := H
 have A5 := Aside0.mk A50
 clear A50
 replace H := Option.bind_eq_some_iff.mp H
 obtain ⟨⟨t173, t174⟩, A60, H⟩ := H
 replace H : ((redpencillaw12_at.f 1 2).bind fun bt175 => ((redpencillaw12_at.f 1 4).bind fun bt177 => ((redpencillaw12_at.f 3 4).bind fun bt179 => ((redpencillaw12_at.f 9 9).bind fun bt181 => ((redpencillaw12_at.f 3 5).bind fun bt183 => ((redpencillaw12_at.f 3 6).bind fun bt185 => ((redpencillaw12_at.f 3 6).bind fun bt187 => ((redpencillaw12_at.f 3 5).bind fun bt189 => (some (([(⟨(⟨t163, t164⟩ : S35), (⟨0, 0⟩ : S35), 1, 97⟩ : S37), (⟨(⟨t165, t166⟩ : S35), (⟨t167, t168⟩ : S35), 2, 98⟩ : S37), (⟨(⟨t169, t170⟩ : S35), (⟨t171, t172⟩ : S35), 2, 0⟩ : S37), (⟨(⟨t173, t174⟩ : S35), (⟨bt175.1, bt175.2⟩ : S35), 3, 100⟩ : S37), (⟨(⟨bt177.1, bt177.2⟩ : S35), (⟨0, 0⟩ : S35), 4, 101⟩ : S37), (⟨(⟨bt179.1, bt179.2⟩ : S35), (⟨bt181.1, bt181.2⟩ : S35), 1, 102⟩ : S37), (⟨(⟨bt183.1, bt183.2⟩ : S35), (⟨bt185.1, bt185.2⟩ : S35), 1, 103⟩ : S37), (⟨(⟨bt187.1, bt187.2⟩ : S35), (⟨bt189.1, bt189.2⟩ : S35), 1, 104⟩ : S37)] : List (S37)))))))))))) = some r := H
 have A6 := Aside0.mk A60
 clear A60
 replace H := Option.bind_eq_some_iff.mp H
 obtain ⟨⟨t175, t176⟩, A70, H⟩ := H
 replace H : ((redpencillaw12_at.f 1 4).bind fun bt177 => ((redpencillaw12_at.f 3 4).bind fun bt179 => ((redpencillaw12_at.f 9 9).bind fun bt181 => ((redpencillaw12_at.f 3 5).bind fun bt183 => ((redpencillaw12_at.f 3 6).bind fun bt185 => ((redpencillaw12_at.f 3 6).bind fun bt187 => ((redpencillaw12_at.f 3 5).bind fun bt189 => (some (([(⟨(⟨t163, t164⟩ : S35), (⟨0, 0⟩ : S35), 1, 97⟩ : S37), (⟨(⟨t165, t166⟩ : S35), (⟨t167, t168⟩ : S35), 2, 98⟩ : S37), (⟨(⟨t169, t170⟩ : S35), (⟨t171, t172⟩ : S35), 2, 0⟩ : S37), (⟨(⟨t173, t174⟩ : S35), (⟨t175, t176⟩ : S35), 3, 100⟩ : S37), (⟨(⟨bt177.1, bt177.2⟩ : S35), (⟨0, 0⟩ : S35), 4, 101⟩ : S37), (⟨(⟨bt179.1, bt179.2⟩ : S35), (⟨bt181.1, bt181.2⟩ : S35), 1, 102⟩ : S37), (⟨(⟨bt183.1, bt183.2⟩ : S35), (⟨bt185.1, bt185.2⟩ : S35), 1, 103⟩ : S37), (⟨(⟨bt187.1, bt187.2⟩ : S35), (⟨bt189.1, bt189.2⟩ : S35), 1, 104⟩ : S37)] : List (S37))))))))))) = some r := H
 have A7 := Aside0.mk A70
 clear A70
 replace H := Option.bind_eq_some_iff.mp H
 obtain ⟨⟨t177, t178⟩, A80, H⟩ := H
 replace H : ((redpencillaw12_at.f 3 4).bind fun bt179 => ((redpencillaw12_at.f 9 9).bind fun bt181 => ((redpencillaw12_at.f 3 5).bind fun bt183 => ((redpencillaw12_at.f 3 6).bind fun bt185 => ((redpencillaw12_at.f 3 6).bind fun bt187 => ((redpencillaw12_at.f 3 5).bind fun bt189 => (some (([(⟨(⟨t163, t164⟩ : S35), (⟨0, 0⟩ : S35), 1, 97⟩ : S37), (⟨(⟨t165, t166⟩ : S35), (⟨t167, t168⟩ : S35), 2, 98⟩ : S37), (⟨(⟨t169, t170⟩ : S35), (⟨t171, t172⟩ : S35), 2, 0⟩ : S37), (⟨(⟨t173, t174⟩ : S35), (⟨t175, t176⟩ : S35), 3, 100⟩ : S37), (⟨(⟨t177, t178⟩ : S35), (⟨0, 0⟩ : S35), 4, 101⟩ : S37), (⟨(⟨bt179.1, bt179.2⟩ : S35), (⟨bt181.1, bt181.2⟩ : S35), 1, 102⟩ : S37), (⟨(⟨bt183.1, bt183.2⟩ : S35), (⟨bt185.1, bt185.2⟩ : S35), 1, 103⟩ : S37), (⟨(⟨bt187.1, bt187.2⟩ : S35), (⟨bt189.1, bt189.2⟩ : S35), 1, 104⟩ : S37)] : List (S37)))))))))) = some r := H
 have A8 := Aside0.mk A80
 clear A80
 replace H := Option.bind_eq_some_iff.mp H
 obtain ⟨⟨t179, t180⟩, A90, H⟩ := H
 replace H : ((redpencillaw12_at.f 9 9).bind fun bt181 => ((redpencillaw12_at.f 3 5).bind fun bt183 => ((redpencillaw12_at.f 3 6).bind fun bt185 => ((redpencillaw12_at.f 3 6).bind fun bt187 => ((redpencillaw12_at.f 3 5).bind fun bt189 => (some (([(⟨(⟨t163, t164⟩ : S35), (⟨0, 0⟩ : S35), 1, 97⟩ : S37), (⟨(⟨t165, t166⟩ : S35), (⟨t167, t168⟩ : S35), 2, 98⟩ : S37), (⟨(⟨t169, t170⟩ : S35), (⟨t171, t172⟩ : S35), 2, 0⟩ : S37), (⟨(⟨t173, t174⟩ : S35), (⟨t175, t176⟩ : S35), 3, 100⟩ : S37), (⟨(⟨t177, t178⟩ : S35), (⟨0, 0⟩ : S35), 4, 101⟩ : S37), (⟨(⟨t179, t180⟩ : S35), (⟨bt181.1, bt181.2⟩ : S35), 1, 102⟩ : S37), (⟨(⟨bt183.1, bt183.2⟩ : S35), (⟨bt185.1, bt185.2⟩ : S35), 1, 103⟩ : S37), (⟨(⟨bt187.1, bt187.2⟩ : S35), (⟨bt189.1, bt189.2⟩ : S35), 1, 104⟩ : S37)] : List (S37))))))))) = some r := H
 have A9 := Aside0.mk A90
 clear A90
 replace H := Option.bind_eq_some_iff.mp H
 obtain ⟨⟨t181, t182⟩, A100, H⟩ := H
 replace H : ((redpencillaw12_at.f 3 5).bind fun bt183 => ((redpencillaw12_at.f 3 6).bind fun bt185 => ((redpencillaw12_at.f 3 6).bind fun bt187 => ((redpencillaw12_at.f 3 5).bind fun bt189 => (some (([(⟨(⟨t163, t164⟩ : S35), (⟨0, 0⟩ : S35), 1, 97⟩ : S37), (⟨(⟨t165, t166⟩ : S35), (⟨t167, t168⟩ : S35), 2, 98⟩ : S37), (⟨(⟨t169, t170⟩ : S35), (⟨t171, t172⟩ : S35), 2, 0⟩ : S37), (⟨(⟨t173, t174⟩ : S35), (⟨t175, t176⟩ : S35), 3, 100⟩ : S37), (⟨(⟨t177, t178⟩ : S35), (⟨0, 0⟩ : S35), 4, 101⟩ : S37), (⟨(⟨t179, t180⟩ : S35), (⟨t181, t182⟩ : S35), 1, 102⟩ : S37), (⟨(⟨bt183.1, bt183.2⟩ : S35), (⟨bt185.1, bt185.2⟩ : S35), 1, 103⟩ : S37), (⟨(⟨bt187.1, bt187.2⟩ : S35), (⟨bt189.1, bt189.2⟩ : S35), 1, 104⟩ : S37)] : List (S37)))))))) = some r := H
 have A10 := Aside0.mk A100
 clear A100
 replace H := Option.bind_eq_some_iff.mp H
 obtain ⟨⟨t183, t184⟩, A110, H⟩ := H
 replace H : ((redpencillaw12_at.f 3 6).bind fun bt185 => ((redpencillaw12_at.f 3 6).bind fun bt187 => ((redpencillaw12_at.f 3 5).bind fun bt189 => (some (([(⟨(⟨t163, t164⟩ : S35), (⟨0, 0⟩ : S35), 1, 97⟩ : S37), (⟨(⟨t165, t166⟩ : S35), (⟨t167, t168⟩ : S35), 2, 98⟩ : S37), (⟨(⟨t169, t170⟩ : S35), (⟨t171, t172⟩ : S35), 2, 0⟩ : S37), (⟨(⟨t173, t174⟩ : S35), (⟨t175, t176⟩ : S35), 3, 100⟩ : S37), (⟨(⟨t177, t178⟩ : S35), (⟨0, 0⟩ : S35), 4, 101⟩ : S37), (⟨(⟨t179, t180⟩ : S35), (⟨t181, t182⟩ : S35), 1, 102⟩ : S37), (⟨(⟨t183, t184⟩ : S35), (⟨bt185.1, bt185.2⟩ : S35), 1, 103⟩ : S37), (⟨(⟨bt187.1, bt187.2⟩ : S35), (⟨bt189.1, bt189.2⟩ : S35), 1, 104⟩ : S37)] : List (S37))))))) = some r := H
 have A11 := Aside0.mk A110
 clear A110
 replace H := Option.bind_eq_some_iff.mp H
 obtain ⟨⟨t185, t186⟩, A120, H⟩ := H
 replace H : ((redpencillaw12_at.f 3 6).bind fun bt187 => ((redpencillaw12_at.f 3 5).bind fun bt189 => (some (([(⟨(⟨t163, t164⟩ : S35), (⟨0, 0⟩ : S35), 1, 97⟩ : S37), (⟨(⟨t165, t166⟩ : S35), (⟨t167, t168⟩ : S35), 2, 98⟩ : S37), (⟨(⟨t169, t170⟩ : S35), (⟨t171, t172⟩ : S35), 2, 0⟩ : S37), (⟨(⟨t173, t174⟩ : S35), (⟨t175, t176⟩ : S35), 3, 100⟩ : S37), (⟨(⟨t177, t178⟩ : S35), (⟨0, 0⟩ : S35), 4, 101⟩ : S37), (⟨(⟨t179, t180⟩ : S35), (⟨t181, t182⟩ : S35), 1, 102⟩ : S37), (⟨(⟨t183, t184⟩ : S35), (⟨t185, t186⟩ : S35), 1, 103⟩ : S37), (⟨(⟨bt187.1, bt187.2⟩ : S35), (⟨bt189.1, bt189.2⟩ : S35), 1, 104⟩ : S37)] : List (S37)))))) = some r := H
 have A12 := Aside0.mk A120
 clear A120
 replace H := Option.bind_eq_some_iff.mp H
 obtain ⟨⟨t187, t188⟩, A130, H⟩ := H
 replace H : ((redpencillaw12_at.f 3 5).bind fun bt189 => (some (([(⟨(⟨t163, t164⟩ : S35), (⟨0, 0⟩ : S35), 1, 97⟩ : S37), (⟨(⟨t165, t166⟩ : S35), (⟨t167, t168⟩ : S35), 2, 98⟩ : S37), (⟨(⟨t169, t170⟩ : S35), (⟨t171, t172⟩ : S35), 2, 0⟩ : S37), (⟨(⟨t173, t174⟩ : S35), (⟨t175, t176⟩ : S35), 3, 100⟩ : S37), (⟨(⟨t177, t178⟩ : S35), (⟨0, 0⟩ : S35), 4, 101⟩ : S37), (⟨(⟨t179, t180⟩ : S35), (⟨t181, t182⟩ : S35), 1, 102⟩ : S37), (⟨(⟨t183, t184⟩ : S35), (⟨t185, t186⟩ : S35), 1, 103⟩ : S37), (⟨(⟨t187, t188⟩ : S35), (⟨bt189.1, bt189.2⟩ : S35), 1, 104⟩ : S37)] : List (S37))))) = some r := H
 have A13 := Aside0.mk A130
 clear A130
 replace H := Option.bind_eq_some_iff.mp H
 obtain ⟨⟨t189, t190⟩, A140, H⟩ := H
 replace H : (some (([(⟨(⟨t163, t164⟩ : S35), (⟨0, 0⟩ : S35), 1, 97⟩ : S37), (⟨(⟨t165, t166⟩ : S35), (⟨t167, t168⟩ : S35), 2, 98⟩ : S37), (⟨(⟨t169, t170⟩ : S35), (⟨t171, t172⟩ : S35), 2, 0⟩ : S37), (⟨(⟨t173, t174⟩ : S35), (⟨t175, t176⟩ : S35), 3, 100⟩ : S37), (⟨(⟨t177, t178⟩ : S35), (⟨0, 0⟩ : S35), 4, 101⟩ : S37), (⟨(⟨t179, t180⟩ : S35), (⟨t181, t182⟩ : S35), 1, 102⟩ : S37), (⟨(⟨t183, t184⟩ : S35), (⟨t185, t186⟩ : S35), 1, 103⟩ : S37), (⟨(⟨t187, t188⟩ : S35), (⟨t189, t190⟩ : S35), 1, 104⟩ : S37)] : List (S37)))) = some r := H
 have A14 := Aside0.mk A140
 clear A140
 obtain ⟨y191, hy191⟩ : ∃ y_ : List (S37), y_ = (([(⟨(⟨t163, t164⟩ : S35), (⟨0, 0⟩ : S35), 1, 97⟩ : S37), (⟨(⟨t165, t166⟩ : S35), (⟨t167, t168⟩ : S35), 2, 98⟩ : S37), (⟨(⟨t169, t170⟩ : S35), (⟨t171, t172⟩ : S35), 2, 0⟩ : S37), (⟨(⟨t173, t174⟩ : S35), (⟨t175, t176⟩ : S35), 3, 100⟩ : S37), (⟨(⟨t177, t178⟩ : S35), (⟨0, 0⟩ : S35), 4, 101⟩ : S37), (⟨(⟨t179, t180⟩ : S35), (⟨t181, t182⟩ : S35), 1, 102⟩ : S37), (⟨(⟨t183, t184⟩ : S35), (⟨t185, t186⟩ : S35), 1, 103⟩ : S37), (⟨(⟨t187, t188⟩ : S35), (⟨t189, t190⟩ : S35), 1, 104⟩ : S37)] : List (S37))) := ⟨_, rfl⟩
 replace H : (some y191) = some r := by first | (rw [hy191]; with_reducible exact H) | (have H2_ := (Option.bind_some _ _).symm.trans H; rw [hy191]; with_reducible exact H2_) | (have H2_ := (Option.bind_some _ _).symm.trans H; with_reducible exact H2_) | with_reducible exact H | (rw [hy191]; exact H) | exact H
 have Ny191 := Aside0.mk hy191
 clear hy191
 obtain rfl := Option.some.inj H
 go_enter Tryd.func48, Tryd.ntmps48
 try go_wp2_with (first | ((with_reducible refine gate_dst (N := 1) rfl ?_); refine box_event ?hg (N := 1) ?hd (cs := #[.int .i64 0, .int .i64 0]) (t := 35) ?hr ?_; (case hd => rfl); (case hg => rfl); (case hr => first | (go_simp; done) | (go_simp; rfl)); intro gb162 hg w15 hbox hb; have n0_ := Aside0.mk (below_step (by repeat (first | (with_reducible first | exact HB.out | apply below_alloc | apply pw_below_drewN | apply below_drew1) | exact HB.out)) hb); have n1_ := Aside0.mk (hbox); have n2_ := Aside0.mk ((by rw [hg]; exact (below_size (by repeat (first | (with_reducible first | exact HB.out | apply below_alloc | apply pw_below_drewN | apply below_drew1) | exact HB.out))) : w.heap.size ≤ gb162)); have n3_ := Aside0.mk ((by rw [hg]; exact (below_size (by repeat (first | (with_reducible first | exact HB.out | apply below_alloc | apply pw_below_drewN | apply below_drew1) | exact HB.out))) : w.heap.size ≤ gb162)); clear HB; have HB := n0_; have BK162 := n1_; have GW162 := n2_; have GE162 := n3_; clear n0_ n1_ n2_ n3_; clear hb hbox hg; have hcz16_0 : w15.cell? ⟨gb162, 0, none⟩ = some (.int .i64 0) := (blk_cell BK162.out 0).trans rfl; have hcz16_1 : w15.cell? ⟨gb162, 1, none⟩ = some (.int .i64 0) := (blk_cell BK162.out 1).trans rfl; have hfz16_0 := blk_frozen BK162.out 0; have hfz16_1 := blk_frozen BK162.out 1))
 have n0_ : Aside0 (((w15.setCell ⟨gb162, 0, none⟩ (.int .i64 0)).setCell ⟨gb162, 1, none⟩ (.int .i64 0)).heap[gb162]? = some (.cells #[.int .i64 0, .int .i64 0] 35 (0, 0))) := ⟨by (with_reducible repeat (first | refine blk_drewN ?_ _ | refine blk_drew ?_ | refine blk_alloc ?_ _)); refine blk_put (cs := #[.int .i64 0, .int .i64 0]) ?_ 1 _ rfl; (with_reducible repeat (first | refine blk_drewN ?_ _ | refine blk_drew ?_ | refine blk_alloc ?_ _)); refine blk_put (cs := #[.int .i64 0, .int .i64 0]) ?_ 0 _ rfl; (with_reducible repeat (first | refine blk_drewN ?_ _ | refine blk_drew ?_ | refine blk_alloc ?_ _)); exact BK162.out⟩
 have n1_ : Aside0 (Below w.heap.size w ((w15.setCell ⟨gb162, 0, none⟩ (.int .i64 0)).setCell ⟨gb162, 1, none⟩ (.int .i64 0))) := ⟨by repeat (first | (with_reducible first | exact HB.out | apply below_alloc | apply pw_below_drewN | apply below_drew1 | refine below_set ?_ GE162.out) | exact HB.out)⟩
 (try clear BK162)
 (try clear HB)
 generalize ((w15.setCell ⟨gb162, 0, none⟩ (.int .i64 0)).setCell ⟨gb162, 1, none⟩ (.int .i64 0)) = w17 at n0_ n1_ ⊢
 have BK162 := n0_
 have HB := n1_
 clear n0_ n1_
 have n0_ := Aside0.mk (blk_drew BK162.out)
 have n1_ := Aside0.mk (below_drew1 HB.out)
 clear BK162
 clear HB
 have BK162 := n0_
 have HB := n1_
 clear n0_ n1_
 refine start_ (n := 26) (S := fun w' => w'.cell? ⟨gb162, 0, none⟩ = some (.int .i64 0) ∧ w'.cell? ⟨gb162, 1, none⟩ = some (.int .i64 0)) (ds := []) #[false, false, false, false, false, false, false, false, false, false, false, false, false, false, false, false, false, false, false, false, false, false, false, false, false, false] (by kernel_rfl) rfl rfl ⟨(blk_cell BK162.out 0).trans rfl, (blk_cell BK162.out 1).trans rfl⟩ (fun hHeld => ?_); refine with_tabW redpencillaw12_given.tab2 redpencillaw12_given.bits2 (fun HT_ HW_ => ?_)
 generalize w17.drew = w18 at BK162 HB hHeld ⊢
 refine take_ (i := 1) (N := some 4) (v := ?_) (a' := ?_) #[false, true, false, false, false, false, false, false, false, false, false, false, false, false, false, false, false, false, false, false, false, false, false, false, false, false] rfl rfl (take_ofW HT_.out HW_.out (by kernel_rfl)) (fun _ _ _ h => h) (Or.inl ⟨by rfl, ?_⟩) hHeld ?_ ?_
 rotate_left
 ·
  rintro w' ⟨s0, s1⟩
  go_simp
  with_reducible rfl
 rotate_left
 ·
  simp only [Act.put, List.setIfInBounds_toArray, List.set_cons_zero, List.set_cons_succ, i64_w, i32_w]
  rfl
 refine take_ (i := 13) (N := some 16) (v := ?_) (a' := ?_) #[false, true, false, false, false, false, false, false, false, false, false, false, false, true, false, false, false, false, false, false, false, false, false, false, false, false] rfl rfl (take_ofW HT_.out HW_.out (by kernel_rfl)) (fun _ _ _ h => h) (Or.inl ⟨by rfl, ?_⟩) hHeld ?_ ?_
 rotate_left
 ·
  rintro w' ⟨s0, s1⟩
  go_simp
  with_reducible rfl
 rotate_left
 ·
  simp only [Act.put, List.setIfInBounds_toArray, List.set_cons_zero, List.set_cons_succ, i64_w, i32_w]
  rfl
 refine one_ (i := 0) (N := some 3) #[true, true, false, false, false, false, false, false, false, false, false, false, false, true, false, false, false, false, false, false, false, false, false, false, false, false] rfl rfl (one_of HT_.out (by kernel_rfl)) (by decide) (fun K hK => ?_)
 refine goes_ Tryd.func52 (by kernel_rfl) rfl #[.int .i64 1, .int .i64 1] (by rfl) rfl rfl (by (try simp only [List.map_toArray, List.map_cons, List.map_nil]); first | done | rfl | (simp only [List.length_drop, List.length_take]; rfl)) ?_
 with_reducible refine (redpencillaw12_at.calls 1 1 t163 t164 _ A1.out).mono ?_
 rintro e w19 ⟨rfl, hb⟩
 refine ⟨_, rfl, ?_⟩
 have n0_ := Aside0.mk (blk_below (g := gb162) (o := .cells #[.int .i64 0, .int .i64 0] 35 (0, 0)) (by (with_reducible repeat (first | refine blk_drewN ?_ _ | refine blk_drew ?_ | refine blk_alloc ?_ _)); exact BK162.out) hb)
 have n1_ := Aside0.mk (below_step (by repeat (first | (with_reducible first | exact HB.out | apply below_alloc | apply pw_below_drewN | apply below_drew1 | refine below_set ?_ GE162.out) | exact HB.out)) hb)
 clear BK162
 clear HB
 have BK162 := n0_
 have HB := n1_
 clear n0_ n1_
 (try clear hb)
 (try clear hb2)
 (try clear hk)
 (try clear hi)
 refine hK.out _ _ ⟨(blk_cell BK162.out 0).trans rfl, (blk_cell BK162.out 1).trans rfl⟩ (fun hHeld => ?_)
 clear hK K
 refine norm_ (a' := ?_) ?_ ?_
 rotate_left
 ·
  show Act.put _ (some 3) _ = _
  simp only [Act.put, List.setIfInBounds_toArray, List.set_cons_zero, List.set_cons_succ, i64_w, i32_w]
  rfl
 refine pure_ (i := 2) (N := some 5) (v := ?_) (a' := ?_) #[true, true, true, false, false, false, false, false, false, false, false, false, false, true, false, false, false, false, false, false, false, false, false, false, false, false] rfl rfl (any_of HT_.out (by kernel_rfl)) (fun _ _ _ h => h) (Or.inl ⟨by rfl, ?_⟩) ?_ ?_
 rotate_left
 ·
  intro w'
  go_simp
  with_reducible rfl
 rotate_left
 ·
  simp only [Act.put, List.setIfInBounds_toArray, List.set_cons_zero, List.set_cons_succ, i64_w, i32_w]
  rfl
 refine one_ (i := 3) (N := some 6) #[true, true, true, true, false, false, false, false, false, false, false, false, false, true, false, false, false, false, false, false, false, false, false, false, false, false] rfl rfl (one_of HT_.out (by kernel_rfl)) (by decide) (fun K hK => ?_)
 refine goes_ Tryd.func52 (by kernel_rfl) rfl #[.int .i64 1, .int .i64 2] (by rfl) rfl rfl (by (try simp only [List.map_toArray, List.map_cons, List.map_nil]); first | done | rfl | (simp only [List.length_drop, List.length_take]; rfl)) ?_
 with_reducible refine (redpencillaw12_at.calls 1 2 t165 t166 _ A2.out).mono ?_
 rintro e w20 ⟨rfl, hb⟩
 refine ⟨_, rfl, ?_⟩
 have n0_ := Aside0.mk (blk_below (g := gb162) (o := .cells #[.int .i64 0, .int .i64 0] 35 (0, 0)) (by (with_reducible repeat (first | refine blk_drewN ?_ _ | refine blk_drew ?_ | refine blk_alloc ?_ _)); exact BK162.out) hb)
 have n1_ := Aside0.mk (below_step (by repeat (first | (with_reducible first | exact HB.out | apply below_alloc | apply pw_below_drewN | apply below_drew1 | refine below_set ?_ GE162.out) | exact HB.out)) hb)
 clear BK162
 clear HB
 have BK162 := n0_
 have HB := n1_
 clear n0_ n1_
 (try clear hb)
 (try clear hb2)
 (try clear hk)
 (try clear hi)
 refine hK.out _ _ ⟨(blk_cell BK162.out 0).trans rfl, (blk_cell BK162.out 1).trans rfl⟩ (fun hHeld => ?_)
 clear hK K
 refine norm_ (a' := ?_) ?_ ?_
 rotate_left
 ·
  show Act.put _ (some 6) _ = _
  simp only [Act.put, List.setIfInBounds_toArray, List.set_cons_zero, List.set_cons_succ, i64_w, i32_w]
  rfl
 refine one_ (i := 4) (N := some 7) #[true, true, true, true, true, false, false, false, false, false, false, false, false, true, false, false, false, false, false, false, false, false, false, false, false, false] rfl rfl (one_of HT_.out (by kernel_rfl)) (by decide) (fun K hK => ?_)
 refine goes_ Tryd.func52 (by kernel_rfl) rfl #[.int .i64 1, .int .i64 1] (by rfl) rfl rfl (by (try simp only [List.map_toArray, List.map_cons, List.map_nil]); first | done | rfl | (simp only [List.length_drop, List.length_take]; rfl)) ?_
 with_reducible refine (redpencillaw12_at.calls 1 1 t167 t168 _ A3.out).mono ?_
 rintro e w21 ⟨rfl, hb⟩
 refine ⟨_, rfl, ?_⟩
 have n0_ := Aside0.mk (blk_below (g := gb162) (o := .cells #[.int .i64 0, .int .i64 0] 35 (0, 0)) (by (with_reducible repeat (first | refine blk_drewN ?_ _ | refine blk_drew ?_ | refine blk_alloc ?_ _)); exact BK162.out) hb)
 have n1_ := Aside0.mk (below_step (by repeat (first | (with_reducible first | exact HB.out | apply below_alloc | apply pw_below_drewN | apply below_drew1 | refine below_set ?_ GE162.out) | exact HB.out)) hb)
 clear BK162
 clear HB
 have BK162 := n0_
 have HB := n1_
 clear n0_ n1_
 (try clear hb)
 (try clear hb2)
 (try clear hk)
 (try clear hi)
 refine hK.out _ _ ⟨(blk_cell BK162.out 0).trans rfl, (blk_cell BK162.out 1).trans rfl⟩ (fun hHeld => ?_)
 clear hK K
 refine norm_ (a' := ?_) ?_ ?_
 rotate_left
 ·
  show Act.put _ (some 7) _ = _
  simp only [Act.put, List.setIfInBounds_toArray, List.set_cons_zero, List.set_cons_succ, i64_w, i32_w]
  rfl
 refine pure_ (i := 5) (N := some 8) (v := ?_) (a' := ?_) #[true, true, true, true, true, true, false, false, false, false, false, false, false, true, false, false, false, false, false, false, false, false, false, false, false, false] rfl rfl (any_of HT_.out (by kernel_rfl)) (fun _ _ _ h => h) (Or.inl ⟨by rfl, ?_⟩) ?_ ?_
 rotate_left
 ·
  intro w'
  go_simp
  with_reducible rfl
 rotate_left
 ·
  simp only [Act.put, List.setIfInBounds_toArray, List.set_cons_zero, List.set_cons_succ, i64_w, i32_w]
  rfl
 refine one_ (i := 6) (N := some 9) #[true, true, true, true, true, true, true, false, false, false, false, false, false, true, false, false, false, false, false, false, false, false, false, false, false, false] rfl rfl (one_of HT_.out (by kernel_rfl)) (by decide) (fun K hK => ?_)
 refine goes_ Tryd.func52 (by kernel_rfl) rfl #[.int .i64 2, .int .i64 2] (by rfl) rfl rfl (by (try simp only [List.map_toArray, List.map_cons, List.map_nil]); first | done | rfl | (simp only [List.length_drop, List.length_take]; rfl)) ?_
 with_reducible refine (redpencillaw12_at.calls 2 2 t169 t170 _ A4.out).mono ?_
 rintro e w22 ⟨rfl, hb⟩
 refine ⟨_, rfl, ?_⟩
 have n0_ := Aside0.mk (blk_below (g := gb162) (o := .cells #[.int .i64 0, .int .i64 0] 35 (0, 0)) (by (with_reducible repeat (first | refine blk_drewN ?_ _ | refine blk_drew ?_ | refine blk_alloc ?_ _)); exact BK162.out) hb)
 have n1_ := Aside0.mk (below_step (by repeat (first | (with_reducible first | exact HB.out | apply below_alloc | apply pw_below_drewN | apply below_drew1 | refine below_set ?_ GE162.out) | exact HB.out)) hb)
 clear BK162
 clear HB
 have BK162 := n0_
 have HB := n1_
 clear n0_ n1_
 (try clear hb)
 (try clear hb2)
 (try clear hk)
 (try clear hi)
 refine hK.out _ _ ⟨(blk_cell BK162.out 0).trans rfl, (blk_cell BK162.out 1).trans rfl⟩ (fun hHeld => ?_)
 clear hK K
 refine norm_ (a' := ?_) ?_ ?_
 rotate_left
 ·
  show Act.put _ (some 9) _ = _
  simp only [Act.put, List.setIfInBounds_toArray, List.set_cons_zero, List.set_cons_succ, i64_w, i32_w]
  rfl
 refine one_ (i := 7) (N := some 10) #[true, true, true, true, true, true, true, true, false, false, false, false, false, true, false, false, false, false, false, false, false, false, false, false, false, false] rfl rfl (one_of HT_.out (by kernel_rfl)) (by decide) (fun K hK => ?_)
 refine goes_ Tryd.func52 (by kernel_rfl) rfl #[.int .i64 1, .int .i64 1] (by rfl) rfl rfl (by (try simp only [List.map_toArray, List.map_cons, List.map_nil]); first | done | rfl | (simp only [List.length_drop, List.length_take]; rfl)) ?_
 with_reducible refine (redpencillaw12_at.calls 1 1 t171 t172 _ A5.out).mono ?_
 rintro e w23 ⟨rfl, hb⟩
 refine ⟨_, rfl, ?_⟩
 have n0_ := Aside0.mk (blk_below (g := gb162) (o := .cells #[.int .i64 0, .int .i64 0] 35 (0, 0)) (by (with_reducible repeat (first | refine blk_drewN ?_ _ | refine blk_drew ?_ | refine blk_alloc ?_ _)); exact BK162.out) hb)
 have n1_ := Aside0.mk (below_step (by repeat (first | (with_reducible first | exact HB.out | apply below_alloc | apply pw_below_drewN | apply below_drew1 | refine below_set ?_ GE162.out) | exact HB.out)) hb)
 clear BK162
 clear HB
 have BK162 := n0_
 have HB := n1_
 clear n0_ n1_
 (try clear hb)
 (try clear hb2)
 (try clear hk)
 (try clear hi)
 refine hK.out _ _ ⟨(blk_cell BK162.out 0).trans rfl, (blk_cell BK162.out 1).trans rfl⟩ (fun hHeld => ?_)
 clear hK K
 refine norm_ (a' := ?_) ?_ ?_
 rotate_left
 ·
  show Act.put _ (some 10) _ = _
  simp only [Act.put, List.setIfInBounds_toArray, List.set_cons_zero, List.set_cons_succ, i64_w, i32_w]
  rfl
 refine pure_ (i := 8) (N := some 11) (v := ?_) (a' := ?_) #[true, true, true, true, true, true, true, true, true, false, false, false, false, true, false, false, false, false, false, false, false, false, false, false, false, false] rfl rfl (any_of HT_.out (by kernel_rfl)) (fun _ _ _ h => h) (Or.inl ⟨by rfl, ?_⟩) ?_ ?_
 rotate_left
 ·
  intro w'
  go_simp
  with_reducible rfl
 rotate_left
 ·
  simp only [Act.put, List.setIfInBounds_toArray, List.set_cons_zero, List.set_cons_succ, i64_w, i32_w]
  rfl
 refine one_ (i := 9) (N := some 12) #[true, true, true, true, true, true, true, true, true, true, false, false, false, true, false, false, false, false, false, false, false, false, false, false, false, false] rfl rfl (one_of HT_.out (by kernel_rfl)) (by decide) (fun K hK => ?_)
 refine goes_ Tryd.func52 (by kernel_rfl) rfl #[.int .i64 2, .int .i64 3] (by rfl) rfl rfl (by (try simp only [List.map_toArray, List.map_cons, List.map_nil]); first | done | rfl | (simp only [List.length_drop, List.length_take]; rfl)) ?_
 with_reducible refine (redpencillaw12_at.calls 2 3 t173 t174 _ A6.out).mono ?_
 rintro e w24 ⟨rfl, hb⟩
 refine ⟨_, rfl, ?_⟩
 have n0_ := Aside0.mk (blk_below (g := gb162) (o := .cells #[.int .i64 0, .int .i64 0] 35 (0, 0)) (by (with_reducible repeat (first | refine blk_drewN ?_ _ | refine blk_drew ?_ | refine blk_alloc ?_ _)); exact BK162.out) hb)
 have n1_ := Aside0.mk (below_step (by repeat (first | (with_reducible first | exact HB.out | apply below_alloc | apply pw_below_drewN | apply below_drew1 | refine below_set ?_ GE162.out) | exact HB.out)) hb)
 clear BK162
 clear HB
 have BK162 := n0_
 have HB := n1_
 clear n0_ n1_
 (try clear hb)
 (try clear hb2)
 (try clear hk)
 (try clear hi)
 refine hK.out _ _ ⟨(blk_cell BK162.out 0).trans rfl, (blk_cell BK162.out 1).trans rfl⟩ (fun hHeld => ?_)
 clear hK K
 refine norm_ (a' := ?_) ?_ ?_
 rotate_left
 ·
  show Act.put _ (some 12) _ = _
  simp only [Act.put, List.setIfInBounds_toArray, List.set_cons_zero, List.set_cons_succ, i64_w, i32_w]
  rfl
 refine one_ (i := 10) (N := some 13) #[true, true, true, true, true, true, true, true, true, true, true, false, false, true, false, false, false, false, false, false, false, false, false, false, false, false] rfl rfl (one_of HT_.out (by kernel_rfl)) (by decide) (fun K hK => ?_)
 refine goes_ Tryd.func52 (by kernel_rfl) rfl #[.int .i64 1, .int .i64 2] (by rfl) rfl rfl (by (try simp only [List.map_toArray, List.map_cons, List.map_nil]); first | done | rfl | (simp only [List.length_drop, List.length_take]; rfl)) ?_
 with_reducible refine (redpencillaw12_at.calls 1 2 t175 t176 _ A7.out).mono ?_
 rintro e w25 ⟨rfl, hb⟩
 refine ⟨_, rfl, ?_⟩
 have n0_ := Aside0.mk (blk_below (g := gb162) (o := .cells #[.int .i64 0, .int .i64 0] 35 (0, 0)) (by (with_reducible repeat (first | refine blk_drewN ?_ _ | refine blk_drew ?_ | refine blk_alloc ?_ _)); exact BK162.out) hb)
 have n1_ := Aside0.mk (below_step (by repeat (first | (with_reducible first | exact HB.out | apply below_alloc | apply pw_below_drewN | apply below_drew1 | refine below_set ?_ GE162.out) | exact HB.out)) hb)
 clear BK162
 clear HB
 have BK162 := n0_
 have HB := n1_
 clear n0_ n1_
 (try clear hb)
 (try clear hb2)
 (try clear hk)
 (try clear hi)
 refine hK.out _ _ ⟨(blk_cell BK162.out 0).trans rfl, (blk_cell BK162.out 1).trans rfl⟩ (fun hHeld => ?_)
 clear hK K
 refine norm_ (a' := ?_) ?_ ?_
 rotate_left
 ·
  show Act.put _ (some 13) _ = _
  simp only [Act.put, List.setIfInBounds_toArray, List.set_cons_zero, List.set_cons_succ, i64_w, i32_w]
  rfl
 refine pure_ (i := 11) (N := some 14) (v := ?_) (a' := ?_) #[true, true, true, true, true, true, true, true, true, true, true, true, false, true, false, false, false, false, false, false, false, false, false, false, false, false] rfl rfl (any_of HT_.out (by kernel_rfl)) (fun _ _ _ h => h) (Or.inl ⟨by rfl, ?_⟩) ?_ ?_
 rotate_left
 ·
  intro w'
  go_simp
  with_reducible rfl
 rotate_left
 ·
  simp only [Act.put, List.setIfInBounds_toArray, List.set_cons_zero, List.set_cons_succ, i64_w, i32_w]
  rfl
 refine one_ (i := 12) (N := some 15) #[true, true, true, true, true, true, true, true, true, true, true, true, true, true, false, false, false, false, false, false, false, false, false, false, false, false] rfl rfl (one_of HT_.out (by kernel_rfl)) (by decide) (fun K hK => ?_)
 refine goes_ Tryd.func52 (by kernel_rfl) rfl #[.int .i64 1, .int .i64 4] (by rfl) rfl rfl (by (try simp only [List.map_toArray, List.map_cons, List.map_nil]); first | done | rfl | (simp only [List.length_drop, List.length_take]; rfl)) ?_
 with_reducible refine (redpencillaw12_at.calls 1 4 t177 t178 _ A8.out).mono ?_
 rintro e w26 ⟨rfl, hb⟩
 refine ⟨_, rfl, ?_⟩
 have n0_ := Aside0.mk (blk_below (g := gb162) (o := .cells #[.int .i64 0, .int .i64 0] 35 (0, 0)) (by (with_reducible repeat (first | refine blk_drewN ?_ _ | refine blk_drew ?_ | refine blk_alloc ?_ _)); exact BK162.out) hb)
 have n1_ := Aside0.mk (below_step (by repeat (first | (with_reducible first | exact HB.out | apply below_alloc | apply pw_below_drewN | apply below_drew1 | refine below_set ?_ GE162.out) | exact HB.out)) hb)
 clear BK162
 clear HB
 have BK162 := n0_
 have HB := n1_
 clear n0_ n1_
 (try clear hb)
 (try clear hb2)
 (try clear hk)
 (try clear hi)
 refine hK.out _ _ ⟨(blk_cell BK162.out 0).trans rfl, (blk_cell BK162.out 1).trans rfl⟩ (fun hHeld => ?_)
 clear hK K
 refine norm_ (a' := ?_) ?_ ?_
 rotate_left
 ·
  show Act.put _ (some 15) _ = _
  simp only [Act.put, List.setIfInBounds_toArray, List.set_cons_zero, List.set_cons_succ, i64_w, i32_w]
  rfl
 refine pure_ (i := 14) (N := some 17) (v := ?_) (a' := ?_) #[true, true, true, true, true, true, true, true, true, true, true, true, true, true, true, false, false, false, false, false, false, false, false, false, false, false] rfl rfl (any_of HT_.out (by kernel_rfl)) (fun _ _ _ h => h) (Or.inl ⟨by rfl, ?_⟩) ?_ ?_
 rotate_left
 ·
  intro w'
  go_simp
  with_reducible rfl
 rotate_left
 ·
  simp only [Act.put, List.setIfInBounds_toArray, List.set_cons_zero, List.set_cons_succ, i64_w, i32_w]
  rfl
 refine one_ (i := 15) (N := some 18) #[true, true, true, true, true, true, true, true, true, true, true, true, true, true, true, true, false, false, false, false, false, false, false, false, false, false] rfl rfl (one_of HT_.out (by kernel_rfl)) (by decide) (fun K hK => ?_)
 refine goes_ Tryd.func52 (by kernel_rfl) rfl #[.int .i64 3, .int .i64 4] (by rfl) rfl rfl (by (try simp only [List.map_toArray, List.map_cons, List.map_nil]); first | done | rfl | (simp only [List.length_drop, List.length_take]; rfl)) ?_
 with_reducible refine (redpencillaw12_at.calls 3 4 t179 t180 _ A9.out).mono ?_
 rintro e w27 ⟨rfl, hb⟩
 refine ⟨_, rfl, ?_⟩
 have n0_ := Aside0.mk (blk_below (g := gb162) (o := .cells #[.int .i64 0, .int .i64 0] 35 (0, 0)) (by (with_reducible repeat (first | refine blk_drewN ?_ _ | refine blk_drew ?_ | refine blk_alloc ?_ _)); exact BK162.out) hb)
 have n1_ := Aside0.mk (below_step (by repeat (first | (with_reducible first | exact HB.out | apply below_alloc | apply pw_below_drewN | apply below_drew1 | refine below_set ?_ GE162.out) | exact HB.out)) hb)
 clear BK162
 clear HB
 have BK162 := n0_
 have HB := n1_
 clear n0_ n1_
 (try clear hb)
 (try clear hb2)
 (try clear hk)
 (try clear hi)
 refine hK.out _ _ ⟨(blk_cell BK162.out 0).trans rfl, (blk_cell BK162.out 1).trans rfl⟩ (fun hHeld => ?_)
 clear hK K
 refine norm_ (a' := ?_) ?_ ?_
 rotate_left
 ·
  show Act.put _ (some 18) _ = _
  simp only [Act.put, List.setIfInBounds_toArray, List.set_cons_zero, List.set_cons_succ, i64_w, i32_w]
  rfl
 refine one_ (i := 16) (N := some 19) #[true, true, true, true, true, true, true, true, true, true, true, true, true, true, true, true, true, false, false, false, false, false, false, false, false, false] rfl rfl (one_of HT_.out (by kernel_rfl)) (by decide) (fun K hK => ?_)
 refine goes_ Tryd.func52 (by kernel_rfl) rfl #[.int .i64 9, .int .i64 9] (by rfl) rfl rfl (by (try simp only [List.map_toArray, List.map_cons, List.map_nil]); first | done | rfl | (simp only [List.length_drop, List.length_take]; rfl)) ?_
 with_reducible refine (redpencillaw12_at.calls 9 9 t181 t182 _ A10.out).mono ?_
 rintro e w28 ⟨rfl, hb⟩
 refine ⟨_, rfl, ?_⟩
 have n0_ := Aside0.mk (blk_below (g := gb162) (o := .cells #[.int .i64 0, .int .i64 0] 35 (0, 0)) (by (with_reducible repeat (first | refine blk_drewN ?_ _ | refine blk_drew ?_ | refine blk_alloc ?_ _)); exact BK162.out) hb)
 have n1_ := Aside0.mk (below_step (by repeat (first | (with_reducible first | exact HB.out | apply below_alloc | apply pw_below_drewN | apply below_drew1 | refine below_set ?_ GE162.out) | exact HB.out)) hb)
 clear BK162
 clear HB
 have BK162 := n0_
 have HB := n1_
 clear n0_ n1_
 (try clear hb)
 (try clear hb2)
 (try clear hk)
 (try clear hi)
 refine hK.out _ _ ⟨(blk_cell BK162.out 0).trans rfl, (blk_cell BK162.out 1).trans rfl⟩ (fun hHeld => ?_)
 clear hK K
 refine norm_ (a' := ?_) ?_ ?_
 rotate_left
 ·
  show Act.put _ (some 19) _ = _
  simp only [Act.put, List.setIfInBounds_toArray, List.set_cons_zero, List.set_cons_succ, i64_w, i32_w]
  rfl
 refine pure_ (i := 17) (N := some 20) (v := ?_) (a' := ?_) #[true, true, true, true, true, true, true, true, true, true, true, true, true, true, true, true, true, true, false, false, false, false, false, false, false, false] rfl rfl (any_of HT_.out (by kernel_rfl)) (fun _ _ _ h => h) (Or.inl ⟨by rfl, ?_⟩) ?_ ?_
 rotate_left
 ·
  intro w'
  go_simp
  with_reducible rfl
 rotate_left
 ·
  simp only [Act.put, List.setIfInBounds_toArray, List.set_cons_zero, List.set_cons_succ, i64_w, i32_w]
  rfl
 refine one_ (i := 18) (N := some 21) #[true, true, true, true, true, true, true, true, true, true, true, true, true, true, true, true, true, true, true, false, false, false, false, false, false, false] rfl rfl (one_of HT_.out (by kernel_rfl)) (by decide) (fun K hK => ?_)
 refine goes_ Tryd.func52 (by kernel_rfl) rfl #[.int .i64 3, .int .i64 5] (by rfl) rfl rfl (by (try simp only [List.map_toArray, List.map_cons, List.map_nil]); first | done | rfl | (simp only [List.length_drop, List.length_take]; rfl)) ?_
 with_reducible refine (redpencillaw12_at.calls 3 5 t183 t184 _ A11.out).mono ?_
 rintro e w29 ⟨rfl, hb⟩
 refine ⟨_, rfl, ?_⟩
 have n0_ := Aside0.mk (blk_below (g := gb162) (o := .cells #[.int .i64 0, .int .i64 0] 35 (0, 0)) (by (with_reducible repeat (first | refine blk_drewN ?_ _ | refine blk_drew ?_ | refine blk_alloc ?_ _)); exact BK162.out) hb)
 have n1_ := Aside0.mk (below_step (by repeat (first | (with_reducible first | exact HB.out | apply below_alloc | apply pw_below_drewN | apply below_drew1 | refine below_set ?_ GE162.out) | exact HB.out)) hb)
 clear BK162
 clear HB
 have BK162 := n0_
 have HB := n1_
 clear n0_ n1_
 (try clear hb)
 (try clear hb2)
 (try clear hk)
 (try clear hi)
 refine hK.out _ _ ⟨(blk_cell BK162.out 0).trans rfl, (blk_cell BK162.out 1).trans rfl⟩ (fun hHeld => ?_)
 clear hK K
 refine norm_ (a' := ?_) ?_ ?_
 rotate_left
 ·
  show Act.put _ (some 21) _ = _
  simp only [Act.put, List.setIfInBounds_toArray, List.set_cons_zero, List.set_cons_succ, i64_w, i32_w]
  rfl
 refine one_ (i := 19) (N := some 22) #[true, true, true, true, true, true, true, true, true, true, true, true, true, true, true, true, true, true, true, true, false, false, false, false, false, false] rfl rfl (one_of HT_.out (by kernel_rfl)) (by decide) (fun K hK => ?_)
 refine goes_ Tryd.func52 (by kernel_rfl) rfl #[.int .i64 3, .int .i64 6] (by rfl) rfl rfl (by (try simp only [List.map_toArray, List.map_cons, List.map_nil]); first | done | rfl | (simp only [List.length_drop, List.length_take]; rfl)) ?_
 with_reducible refine (redpencillaw12_at.calls 3 6 t185 t186 _ A12.out).mono ?_
 rintro e w30 ⟨rfl, hb⟩
 refine ⟨_, rfl, ?_⟩
 have n0_ := Aside0.mk (blk_below (g := gb162) (o := .cells #[.int .i64 0, .int .i64 0] 35 (0, 0)) (by (with_reducible repeat (first | refine blk_drewN ?_ _ | refine blk_drew ?_ | refine blk_alloc ?_ _)); exact BK162.out) hb)
 have n1_ := Aside0.mk (below_step (by repeat (first | (with_reducible first | exact HB.out | apply below_alloc | apply pw_below_drewN | apply below_drew1 | refine below_set ?_ GE162.out) | exact HB.out)) hb)
 clear BK162
 clear HB
 have BK162 := n0_
 have HB := n1_
 clear n0_ n1_
 (try clear hb)
 (try clear hb2)
 (try clear hk)
 (try clear hi)
 refine hK.out _ _ ⟨(blk_cell BK162.out 0).trans rfl, (blk_cell BK162.out 1).trans rfl⟩ (fun hHeld => ?_)
 clear hK K
 refine norm_ (a' := ?_) ?_ ?_
 rotate_left
 ·
  show Act.put _ (some 22) _ = _
  simp only [Act.put, List.setIfInBounds_toArray, List.set_cons_zero, List.set_cons_succ, i64_w, i32_w]
  rfl
 refine pure_ (i := 20) (N := some 23) (v := ?_) (a' := ?_) #[true, true, true, true, true, true, true, true, true, true, true, true, true, true, true, true, true, true, true, true, true, false, false, false, false, false] rfl rfl (any_of HT_.out (by kernel_rfl)) (fun _ _ _ h => h) (Or.inl ⟨by rfl, ?_⟩) ?_ ?_
 rotate_left
 ·
  intro w'
  go_simp
  with_reducible rfl
 rotate_left
 ·
  simp only [Act.put, List.setIfInBounds_toArray, List.set_cons_zero, List.set_cons_succ, i64_w, i32_w]
  rfl
 refine one_ (i := 21) (N := some 24) #[true, true, true, true, true, true, true, true, true, true, true, true, true, true, true, true, true, true, true, true, true, true, false, false, false, false] rfl rfl (one_of HT_.out (by kernel_rfl)) (by decide) (fun K hK => ?_)
 refine goes_ Tryd.func52 (by kernel_rfl) rfl #[.int .i64 3, .int .i64 6] (by rfl) rfl rfl (by (try simp only [List.map_toArray, List.map_cons, List.map_nil]); first | done | rfl | (simp only [List.length_drop, List.length_take]; rfl)) ?_
 with_reducible refine (redpencillaw12_at.calls 3 6 t187 t188 _ A13.out).mono ?_
 rintro e w31 ⟨rfl, hb⟩
 refine ⟨_, rfl, ?_⟩
 have n0_ := Aside0.mk (blk_below (g := gb162) (o := .cells #[.int .i64 0, .int .i64 0] 35 (0, 0)) (by (with_reducible repeat (first | refine blk_drewN ?_ _ | refine blk_drew ?_ | refine blk_alloc ?_ _)); exact BK162.out) hb)
 have n1_ := Aside0.mk (below_step (by repeat (first | (with_reducible first | exact HB.out | apply below_alloc | apply pw_below_drewN | apply below_drew1 | refine below_set ?_ GE162.out) | exact HB.out)) hb)
 clear BK162
 clear HB
 have BK162 := n0_
 have HB := n1_
 clear n0_ n1_
 (try clear hb)
 (try clear hb2)
 (try clear hk)
 (try clear hi)
 refine hK.out _ _ ⟨(blk_cell BK162.out 0).trans rfl, (blk_cell BK162.out 1).trans rfl⟩ (fun hHeld => ?_)
 clear hK K
 refine norm_ (a' := ?_) ?_ ?_
 rotate_left
 ·
  show Act.put _ (some 24) _ = _
  simp only [Act.put, List.setIfInBounds_toArray, List.set_cons_zero, List.set_cons_succ, i64_w, i32_w]
  rfl
 refine one_ (i := 22) (N := some 25) #[true, true, true, true, true, true, true, true, true, true, true, true, true, true, true, true, true, true, true, true, true, true, true, false, false, false] rfl rfl (one_of HT_.out (by kernel_rfl)) (by decide) (fun K hK => ?_)
 refine goes_ Tryd.func52 (by kernel_rfl) rfl #[.int .i64 3, .int .i64 5] (by rfl) rfl rfl (by (try simp only [List.map_toArray, List.map_cons, List.map_nil]); first | done | rfl | (simp only [List.length_drop, List.length_take]; rfl)) ?_
 with_reducible refine (redpencillaw12_at.calls 3 5 t189 t190 _ A14.out).mono ?_
 rintro e w32 ⟨rfl, hb⟩
 refine ⟨_, rfl, ?_⟩
 have n0_ := Aside0.mk (blk_below (g := gb162) (o := .cells #[.int .i64 0, .int .i64 0] 35 (0, 0)) (by (with_reducible repeat (first | refine blk_drewN ?_ _ | refine blk_drew ?_ | refine blk_alloc ?_ _)); exact BK162.out) hb)
 have n1_ := Aside0.mk (below_step (by repeat (first | (with_reducible first | exact HB.out | apply below_alloc | apply pw_below_drewN | apply below_drew1 | refine below_set ?_ GE162.out) | exact HB.out)) hb)
 clear BK162
 clear HB
 have BK162 := n0_
 have HB := n1_
 clear n0_ n1_
 (try clear hb)
 (try clear hb2)
 (try clear hk)
 (try clear hi)
 refine hK.out _ _ ⟨(blk_cell BK162.out 0).trans rfl, (blk_cell BK162.out 1).trans rfl⟩ (fun hHeld => ?_)
 clear hK K
 refine norm_ (a' := ?_) ?_ ?_
 rotate_left
 ·
  show Act.put _ (some 25) _ = _
  simp only [Act.put, List.setIfInBounds_toArray, List.set_cons_zero, List.set_cons_succ, i64_w, i32_w]
  rfl
 refine pure_ (i := 23) (N := some 26) (v := ?_) (a' := ?_) #[true, true, true, true, true, true, true, true, true, true, true, true, true, true, true, true, true, true, true, true, true, true, true, true, false, false] rfl rfl (any_of HT_.out (by kernel_rfl)) (fun _ _ _ h => h) (Or.inl ⟨by rfl, ?_⟩) ?_ ?_
 rotate_left
 ·
  intro w'
  go_simp
  with_reducible rfl
 rotate_left
 ·
  simp only [Act.put, List.setIfInBounds_toArray, List.set_cons_zero, List.set_cons_succ, i64_w, i32_w]
  rfl
 refine one_ (i := 24) (N := some 27) #[true, true, true, true, true, true, true, true, true, true, true, true, true, true, true, true, true, true, true, true, true, true, true, true, true, false] rfl rfl (one_of HT_.out (by kernel_rfl)) (by decide) (fun K hK => ?_)
 refine Kd.R_lit_step k37 _ 37 ?hg (N := 27) ?hd (xs := ([(⟨(⟨t163, t164⟩ : S35), (⟨0, 0⟩ : S35), 1, 97⟩ : S37), (⟨(⟨t165, t166⟩ : S35), (⟨t167, t168⟩ : S35), 2, 98⟩ : S37), (⟨(⟨t169, t170⟩ : S35), (⟨t171, t172⟩ : S35), 2, 0⟩ : S37), (⟨(⟨t173, t174⟩ : S35), (⟨t175, t176⟩ : S35), 3, 100⟩ : S37), (⟨(⟨t177, t178⟩ : S35), (⟨0, 0⟩ : S35), 4, 101⟩ : S37), (⟨(⟨t179, t180⟩ : S35), (⟨t181, t182⟩ : S35), 1, 102⟩ : S37), (⟨(⟨t183, t184⟩ : S35), (⟨t185, t186⟩ : S35), 1, 103⟩ : S37), (⟨(⟨t187, t188⟩ : S35), (⟨t189, t190⟩ : S35), 1, 104⟩ : S37)] : List (S37))) (inner := [.int .i64 t163, .int .i64 t164, .int .i64 0, .int .i64 0, .int .i64 1, .int .i32 97, .int .i64 t165, .int .i64 t166, .int .i64 t167, .int .i64 t168, .int .i64 2, .int .i32 98, .int .i64 t169, .int .i64 t170, .int .i64 t171, .int .i64 t172, .int .i64 2, .int .i32 0, .int .i64 t173, .int .i64 t174, .int .i64 t175, .int .i64 t176, .int .i64 3, .int .i32 100, .int .i64 t177, .int .i64 t178, .int .i64 0, .int .i64 0, .int .i64 4, .int .i32 101, .int .i64 t179, .int .i64 t180, .int .i64 t181, .int .i64 t182, .int .i64 1, .int .i32 102, .int .i64 t183, .int .i64 t184, .int .i64 t185, .int .i64 t186, .int .i64 1, .int .i32 103, .int .i64 t187, .int .i64 t188, .int .i64 t189, .int .i64 t190, .int .i64 1, .int .i32 104]) (ok := fun _ => True) (okp := fun _ => True) ?hr ?hp (fun _ hk => hk) trivial (Below.refl _ _) (Nat.le_refl _) (by simp) ?_; (case hd => rfl); (case hg => rfl); (case hr => first | (go_simp; done) | (go_simp; rfl)); (case hp => exact (Reps.c6 (show Kd.M k37 _ _ _ (⟨(⟨t163, t164⟩ : S35), (⟨0, 0⟩ : S35), 1, 97⟩ : S37) [.int .i64 t163, .int .i64 t164, .int .i64 0, .int .i64 0, .int .i64 1, .int .i32 97] from (k37_mkM _ _ _ (⟨(⟨t163, t164⟩ : S35), (⟨0, 0⟩ : S35), 1, 97⟩ : S37) )) (Reps.c6 (show Kd.M k37 _ _ _ (⟨(⟨t165, t166⟩ : S35), (⟨t167, t168⟩ : S35), 2, 98⟩ : S37) [.int .i64 t165, .int .i64 t166, .int .i64 t167, .int .i64 t168, .int .i64 2, .int .i32 98] from (k37_mkM _ _ _ (⟨(⟨t165, t166⟩ : S35), (⟨t167, t168⟩ : S35), 2, 98⟩ : S37) )) (Reps.c6 (show Kd.M k37 _ _ _ (⟨(⟨t169, t170⟩ : S35), (⟨t171, t172⟩ : S35), 2, 0⟩ : S37) [.int .i64 t169, .int .i64 t170, .int .i64 t171, .int .i64 t172, .int .i64 2, .int .i32 0] from (k37_mkM _ _ _ (⟨(⟨t169, t170⟩ : S35), (⟨t171, t172⟩ : S35), 2, 0⟩ : S37) )) (Reps.c6 (show Kd.M k37 _ _ _ (⟨(⟨t173, t174⟩ : S35), (⟨t175, t176⟩ : S35), 3, 100⟩ : S37) [.int .i64 t173, .int .i64 t174, .int .i64 t175, .int .i64 t176, .int .i64 3, .int .i32 100] from (k37_mkM _ _ _ (⟨(⟨t173, t174⟩ : S35), (⟨t175, t176⟩ : S35), 3, 100⟩ : S37) )) (Reps.c6 (show Kd.M k37 _ _ _ (⟨(⟨t177, t178⟩ : S35), (⟨0, 0⟩ : S35), 4, 101⟩ : S37) [.int .i64 t177, .int .i64 t178, .int .i64 0, .int .i64 0, .int .i64 4, .int .i32 101] from (k37_mkM _ _ _ (⟨(⟨t177, t178⟩ : S35), (⟨0, 0⟩ : S35), 4, 101⟩ : S37) )) (Reps.c6 (show Kd.M k37 _ _ _ (⟨(⟨t179, t180⟩ : S35), (⟨t181, t182⟩ : S35), 1, 102⟩ : S37) [.int .i64 t179, .int .i64 t180, .int .i64 t181, .int .i64 t182, .int .i64 1, .int .i32 102] from (k37_mkM _ _ _ (⟨(⟨t179, t180⟩ : S35), (⟨t181, t182⟩ : S35), 1, 102⟩ : S37) )) (Reps.c6 (show Kd.M k37 _ _ _ (⟨(⟨t183, t184⟩ : S35), (⟨t185, t186⟩ : S35), 1, 103⟩ : S37) [.int .i64 t183, .int .i64 t184, .int .i64 t185, .int .i64 t186, .int .i64 1, .int .i32 103] from (k37_mkM _ _ _ (⟨(⟨t183, t184⟩ : S35), (⟨t185, t186⟩ : S35), 1, 103⟩ : S37) )) (Reps.c6 (show Kd.M k37 _ _ _ (⟨(⟨t187, t188⟩ : S35), (⟨t189, t190⟩ : S35), 1, 104⟩ : S37) [.int .i64 t187, .int .i64 t188, .int .i64 t189, .int .i64 t190, .int .i64 1, .int .i32 104] from (k37_mkM _ _ _ (⟨(⟨t187, t188⟩ : S35), (⟨t189, t190⟩ : S35), 1, 104⟩ : S37) )) (Reps.none _ _))))))))))
 intro v192 w33 ho34 hb hg_ hnew_
 clear hg_ hnew_
 (first | rw [← Ny191.out] at ho34 | (simp only [Int.reduceToNat] at ho34; rw [← Ny191.out] at ho34))
 have n0_ := Aside0.mk (Kd.R_lower ho34 (below_size (by repeat (first | (with_reducible first | exact HB.out | apply below_alloc | apply pw_below_drewN | apply below_drew1 | refine below_set ?_ GE162.out) | exact HB.out))))
 have n1_ := Aside0.mk (blk_below (g := gb162) (o := .cells #[.int .i64 0, .int .i64 0] 35 (0, 0)) (by (with_reducible repeat (first | refine blk_drewN ?_ _ | refine blk_drew ?_ | refine blk_alloc ?_ _)); exact BK162.out) hb)
 have n2_ := Aside0.mk (below_step (by repeat (first | (with_reducible first | exact HB.out | apply below_alloc | apply pw_below_drewN | apply below_drew1 | refine below_set ?_ GE162.out) | exact HB.out)) hb)
 clear BK162
 clear HB
 have HO193 := n0_
 have BK162 := n1_
 have HB := n2_
 clear n0_ n1_ n2_
 clear hb ho34
 refine hK.out _ _ ⟨(blk_cell BK162.out 0).trans rfl, (blk_cell BK162.out 1).trans rfl⟩ (fun hHeld => ?_)
 clear hK K
 refine norm_ (a' := ?_) ?_ ?_
 rotate_left
 ·
  show Act.put _ (some 27) _ = _
  simp only [Act.put, List.setIfInBounds_toArray, List.set_cons_zero, List.set_cons_succ, i64_w, i32_w]
  rfl
 refine pure_ (i := 25) (N := some 0) (v := ?_) (a' := ?_) #[true, true, true, true, true, true, true, true, true, true, true, true, true, true, true, true, true, true, true, true, true, true, true, true, true, true] rfl rfl (any_of HT_.out (by kernel_rfl)) (fun _ _ _ h => h) (Or.inl ⟨by rfl, ?_⟩) ?_ ?_
 rotate_left
 ·
  intro w'
  go_simp
  with_reducible rfl
 rotate_left
 ·
  simp only [Act.put, List.setIfInBounds_toArray, List.set_cons_zero, List.set_cons_succ, i64_w, i32_w]
  rfl
 refine done_ (done_of HT_.out (by kernel_rfl)) ?_
 try go_wp2
 go_ret
 exact ⟨_, by first | rfl | (simp [errW_none, errW_some] <;> rfl) | (simp [*, errW_none, errW_some] <;> rfl), by (with_reducible repeat (first | apply Kd.R_alloc | apply Kd.R_drewN | apply Kd.R_drew)); exact HO193.out, by repeat (first | (with_reducible first | exact HB.out | apply below_alloc | apply pw_below_drewN | apply below_drew1 | refine below_set ?_ GE162.out) | exact HB.out)⟩
def index_Runes.l0 : Nat → Int → List Int → List (S37) → Int → Int → Option (List Int × Int)
 | 0, _, _, _, _, _ => none
 | k + 1, x5, x6, x14, x15, x16 => if x16 < x15 then (if 0 ≤ x16 then (if x16 < (x14.length : Int) then (if x6.length < 35184372088832 then (index_Runes.l0 k x5 (x6 ++ [(rd_T37 x14 x16).f3]) x14 x15 (wrap64 (x16 + 1))) else (none)) else (none)) else (none)) else (some (x6, x5))
def index_Runes.f (k : Nat) (l0 : List (S37)) : Option (List Int × Int) := (index_visible.f l0).bind fun bt194 => (index_Runes.l0 k bt194.2 ([] : List Int) bt194.1 (bt194.1.length : Int) 0)
set_option maxHeartbeats 8000000 in
set_option maxRecDepth 100000 in
theorem index_Runes.calls (k : Nat) (A0 : Option Addr) (c0 : Nat) (l0 : List (S37)) (r1 : List Int) (r2 : Int) (w : World) (hr0 : Kd.C k37 w A0 l0.length l0) (hc0 : l0.length ≤ c0) (h : index_Runes.f k l0 = some (r1, r2)) :
  Calls Tryd.prog 24 #[.slice A0 l0.length c0] w fun e w' => ∃ v0_ : Value, e = .returned (.tuple #[v0_, .int .i64 r2]) ∧ Kd.R (Kd.int .i32) 21 w' w.heap.size (fun _ => True) v0_ r1 ∧ Below w.heap.size w w' := by
 have hu37 := Tryd.underlying37
 have HR0 := Aside0.mk hr0
 have HC0 := Aside0.mk hc0
 clear hr0 hc0
 have HB := Aside0.mk (Below.refl w.heap.size w)
 have H : ((index_visible.f l0).bind fun bt194 => (index_Runes.l0 k bt194.2 ([] : List Int) bt194.1 (bt194.1.length : Int) 0)) = some (r1, r2) := h
 clear h
 replace H := Option.bind_eq_some_iff.mp H
 obtain ⟨⟨t194, t195⟩, A20, H⟩ := H
 replace H : (index_Runes.l0 k t195 ([] : List Int) t194 (t194.length : Int) 0) = some (r1, r2) := H
 have A2 := Aside0.mk A20
 clear A20
 have H' := Aside0.mk H
 clear H
 go_enter Tryd.func24, Tryd.ntmps24
 go_wp2_with (first | ((with_reducible refine gate_callee (f := 53) rfl ?_); refine goesL_ (some 11) rfl rfl Tryd.func53 (by kernel_rfl) rfl #[.slice A0 l0.length c0] rfl (by (try simp only [List.map_toArray, List.map_cons, List.map_nil]); first | done | rfl | (simp only [List.length_drop, List.length_take]; rfl)) ?_; (with_reducible refine (index_visible.calls _ _ l0 t194 t195 _ ?side1 ?side2 A2.out).mono ?_); (case side1 => repeat (first | exact HR0.out | (with_reducible refine Kd.C_alloc ?_ _) | (with_reducible refine Kd.C_drewN ?_ _) | (with_reducible refine Kd.C_drew ?_))); (case side2 => exact HC0.out); rintro e w3 ⟨v196, rfl, ho0, hb⟩; refine ⟨_, rfl, ?_⟩; have n0_ := Aside0.mk (Kd.R_lower ho0 (below_size (by repeat (first | (with_reducible first | exact HB.out | apply below_alloc | apply pw_below_drewN | apply below_drew1) | exact HB.out)))); have n1_ := Aside0.mk (below_step (by repeat (first | (with_reducible first | exact HB.out | apply below_alloc | apply pw_below_drewN | apply below_drew1) | exact HB.out)) hb); clear HB; have HO197 := n0_; have HB := n1_; clear n0_ n1_; (try clear hb); (try clear hb2); (try clear hk); (try clear hi); (try clear ho0); obtain ⟨Ao4, co4, eo4⟩ := Kd.R_slice HO197.out; subst eo4))
 go_loopg [6, 16] k (fun kq v6 v16 w' => ∃ (x6_1 : List Int) (x16_1 : Int), v16 = .int .i64 x16_1 ∧ Aside0 (index_Runes.l0 kq t195 x6_1 t194 (t194.length : Int) x16_1 = some (r1, r2)) ∧ Aside0 (kq ≤ k) ∧ Aside0 (Kd.R (Kd.int .i32) 21 w' w.heap.size (fun _ => True) v6 x6_1) ∧ Aside0 (Kd.R k37 37 w' w.heap.size (fun _ => True) (.slice Ao4 t194.length co4) t194) ∧ Aside0 (Below w.heap.size w w'))
 case atStart => exact ⟨(([] : List Int)), (0), (by first | rfl | (simp; done) | (simp [*]; done)), H', ⟨Nat.le_refl _⟩, ⟨by first | exact Kd.R_nil _ _ _ _ _ | exact Kd.N_nil _ _ _ _ _ | exact Kd.V_nil _ _ _ _ _ | exact Kd.Q_nil _ _ _ _ _ | exact Kd.S_nil _ _ _ _ _⟩, ⟨by (with_reducible repeat (first | apply Kd.R_alloc | apply Kd.R_drewN | apply Kd.R_drew)); exact HO197.out⟩, ⟨by repeat (first | (with_reducible first | exact HB.out | apply below_alloc | apply pw_below_drewN | apply below_drew1) | exact HB.out)⟩⟩
 case round =>
  clear H'
  try clear c2
  try clear p2
  obtain ⟨x6_1, x16_1, rfl, HA, HK1, HO_6, HO_14, HB⟩ := hrel
  cases gk with
  | zero => exact absurd HA.out (by simp [index_Runes.l0])
  | succ k1 =>
   have H := HA.out
   clear HA
   simp only [index_Runes.l0] at H
   by_cases c5 : x16_1 < (t194.length : Int)
   ·
    rw [if_pos c5] at H
    have c5b0 : decide (x16_1 < (t194.length : Int)) = true := decide_eq_true c5
    clear c5
    by_cases c6 : 0 ≤ x16_1
    ·
     rw [if_pos c6] at H
     have c6b0 : decide (0 ≤ x16_1) = true := decide_eq_true c6
     clear c6
     by_cases c7 : x16_1 < (t194.length : Int)
     ·
      rw [if_pos c7] at H
      have c7b0 : decide (x16_1 < (t194.length : Int)) = true := decide_eq_true c7
      clear c7
      by_cases c8 : x6_1.length < 35184372088832
      ·
       rw [if_pos c8] at H
       have LMc8 := Aside0.mk c8
       clear c8
       obtain ⟨y200, hy200⟩ : ∃ y_ : List Int, y_ = (x6_1 ++ [(rd_T37 t194 x16_1).f3]) := ⟨_, rfl⟩
       replace H : (index_Runes.l0 k1 t195 y200 t194 (t194.length : Int) (wrap64 (x16_1 + 1))) = some (r1, r2) := by first | (rw [hy200]; with_reducible exact H) | (have H2_ := (Option.bind_some _ _).symm.trans H; rw [hy200]; with_reducible exact H2_) | (have H2_ := (Option.bind_some _ _).symm.trans H; with_reducible exact H2_) | with_reducible exact H | (rw [hy200]; exact H) | exact H
       have Ny200 := Aside0.mk hy200
       clear hy200
       have H' := Aside0.mk H
       clear H
       have p198 : 0 ≤ (x16_1 : Int) := of_decide_eq_true (by first | (with_reducible assumption) | assumption)
       have q198 : x16_1 < (t194.length : Int) := of_decide_eq_true (by first | (with_reducible assumption) | assumption)
       obtain ⟨ad198, e198, hx198_0, hx198_1, hx198_2, hx198_3, hx198_4, hx198_5⟩ := at_T37 (Kd.R_reads' HO_14.out).2.2 x16_1 p198 q198
       cases e198
       replace p198 := eq_true p198
       replace q198 := eq_true q198
       go_wp2_with (first | ((with_reducible refine gate_dst (N := 8) rfl ?_); refine box_event ?hg (N := 8) ?hd (cs := #[.int .i64 0, .int .i64 0, .int .i64 0, .int .i64 0, .int .i64 0, .int .i32 0]) (t := 37) ?hr ?_; (case hd => rfl); (case hg => rfl); (case hr => first | (go_simp; done) | (go_simp; rfl)); intro gb199 hg w9 hbox hb; have n0_ := Aside0.mk (Kd.R_below (by (with_reducible repeat (first | apply Kd.R_alloc | apply Kd.R_drewN | apply Kd.R_drew)); exact HO_6.out) hb); have n1_ := Aside0.mk (Kd.R_below (Kd.R_elderB (by (with_reducible repeat (first | apply Kd.R_alloc | apply Kd.R_drewN | apply Kd.R_drew)); exact HO_14.out) gb199 (Nat.le_of_eq hg.symm)) hb); have n2_ := Aside0.mk (below_step (by repeat (first | (with_reducible first | exact HB.out | apply below_alloc | apply pw_below_drewN | apply below_drew1) | exact HB.out)) hb); have n3_ := Aside0.mk (hbox); have n4_ := Aside0.mk ((by rw [hg]; exact (below_size (by repeat (first | (with_reducible first | exact HB.out | apply below_alloc | apply pw_below_drewN | apply below_drew1) | exact HB.out))) : w.heap.size ≤ gb199)); have n5_ := Aside0.mk ((by rw [hg]; exact (below_size (by repeat (first | (with_reducible first | exact HB.out | apply below_alloc | apply pw_below_drewN | apply below_drew1) | exact HB.out))) : w.heap.size ≤ gb199)); clear HO_6; clear HO_14; clear HB; have HO_6 := n0_; have HO_14 := n1_; have HB := n2_; have BK199 := n3_; have GW199 := n4_; have GE199 := n5_; clear n0_ n1_ n2_ n3_ n4_ n5_; clear hb hbox hg; have hcz10_0 : w9.cell? ⟨gb199, 0, none⟩ = some (.int .i64 0) := (blk_cell BK199.out 0).trans rfl; have hcz10_1 : w9.cell? ⟨gb199, 1, none⟩ = some (.int .i64 0) := (blk_cell BK199.out 1).trans rfl; have hcz10_2 : w9.cell? ⟨gb199, 2, none⟩ = some (.int .i64 0) := (blk_cell BK199.out 2).trans rfl; have hcz10_3 : w9.cell? ⟨gb199, 3, none⟩ = some (.int .i64 0) := (blk_cell BK199.out 3).trans rfl; have hcz10_4 : w9.cell? ⟨gb199, 4, none⟩ = some (.int .i64 0) := (blk_cell BK199.out 4).trans rfl; have hcz10_5 : w9.cell? ⟨gb199, 5, none⟩ = some (.int .i32 0) := (blk_cell BK199.out 5).trans rfl; have hfz10_0 := blk_frozen BK199.out 0; have hfz10_1 := blk_frozen BK199.out 1; have hfz10_2 := blk_frozen BK199.out 2; have hfz10_3 := blk_frozen BK199.out 3; have hfz10_4 := blk_frozen BK199.out 4; have hfz10_5 := blk_frozen BK199.out 5) | ((with_reducible refine gate_builtin (b := .append) (xs := #[.tmp 20, .tmp 23]) rfl ?_); at_builtin; refine Kd.R_append (Kd.int .i32) (w0 := w) w.heap.size rfl (.tmp 20) (.tmp 23) 50 21 (.int .i32 0) 4 rfl Tryd.underlying50 info21 rfl (by decide) (by omega) u6 x6_1 ((rd_T37 t194 x16_1).f3) [.int .i32 ((rd_T37 t194 x16_1).f3)] (fun _ => True) (fun _ => False) rfl (by first | (go_simp; done) | (go_simp; rfl)) ?aP (fun _ hk => hk.elim) ?aF ?aO ?aB ?aS ?aL ?_; (case aP => exact rfl); (case aB => exact (by repeat (first | (with_reducible first | exact HB.out | apply below_alloc | apply pw_below_drewN | apply below_drew1 | refine below_set ?_ GE199.out) | exact HB.out))); (case aF => exact (fun _ _ => trivial)); (case aO => exact (by (with_reducible repeat (first | apply Kd.R_alloc | apply Kd.R_drewN | apply Kd.R_drew)); exact Kd.R_mono (Kd.R_far (p := ⟨gb199, 5, none⟩) (Kd.R_far (p := ⟨gb199, 4, none⟩) (Kd.R_far (p := ⟨gb199, 3, none⟩) (Kd.R_far (p := ⟨gb199, 2, none⟩) (Kd.R_far (p := ⟨gb199, 1, none⟩) (Kd.R_far (p := ⟨gb199, 0, none⟩) (Kd.R_types HO_6.out BK199.out (by decide)) (fun _ hk => hk.2) (.int .i64 ((rd_T37 t194 x16_1).f0.f0))) (fun _ hk => hk.2) (.int .i64 ((rd_T37 t194 x16_1).f0.f1))) (fun _ hk => hk.2) (.int .i64 ((rd_T37 t194 x16_1).f1.f0))) (fun _ hk => hk.2) (.int .i64 ((rd_T37 t194 x16_1).f1.f1))) (fun _ hk => hk.2) (.int .i64 ((rd_T37 t194 x16_1).f2))) (fun _ hk => hk.2) (.int .i32 ((rd_T37 t194 x16_1).f3))) (fun _ hk => trivial))); (case aS => exact (below_size (by repeat (first | (with_reducible first | exact HB.out | apply below_alloc | apply pw_below_drewN | apply below_drew1 | refine below_set ?_ GE199.out) | exact HB.out)))); (case aL => have := LMc8.out; omega); intro v201 w11 ho hb hg hat; rw [← Ny200.out] at ho; have n0_ := Aside0.mk (Kd.R_over' (by (with_reducible repeat (first | apply Kd.R_alloc | apply Kd.R_drewN | apply Kd.R_drew)); exact (Kd.R_mono (Kd.R_far (p := ⟨gb199, 5, none⟩) (Kd.R_far (p := ⟨gb199, 4, none⟩) (Kd.R_far (p := ⟨gb199, 3, none⟩) (Kd.R_far (p := ⟨gb199, 2, none⟩) (Kd.R_far (p := ⟨gb199, 1, none⟩) (Kd.R_far (p := ⟨gb199, 0, none⟩) (Kd.R_mono HO_14.out (fun k_ hk => (⟨hk, hk.2⟩ : _ ∧ k_ ≠ gb199))) (fun _ hk => hk.2) (.int .i64 ((rd_T37 t194 x16_1).f0.f0))) (fun _ hk => hk.2) (.int .i64 ((rd_T37 t194 x16_1).f0.f1))) (fun _ hk => hk.2) (.int .i64 ((rd_T37 t194 x16_1).f1.f0))) (fun _ hk => hk.2) (.int .i64 ((rd_T37 t194 x16_1).f1.f1))) (fun _ hk => hk.2) (.int .i64 ((rd_T37 t194 x16_1).f2))) (fun _ hk => hk.2) (.int .i32 ((rd_T37 t194 x16_1).f3))) (fun _ h_ => h_.1))) (Kd.R_typed (by (with_reducible repeat (first | apply Kd.R_alloc | apply Kd.R_drewN | apply Kd.R_drew)); exact (Kd.R_mono (Kd.R_far (p := ⟨gb199, 5, none⟩) (Kd.R_far (p := ⟨gb199, 4, none⟩) (Kd.R_far (p := ⟨gb199, 3, none⟩) (Kd.R_far (p := ⟨gb199, 2, none⟩) (Kd.R_far (p := ⟨gb199, 1, none⟩) (Kd.R_far (p := ⟨gb199, 0, none⟩) (Kd.R_types HO_6.out BK199.out (by decide)) (fun _ hk => hk.2) (.int .i64 ((rd_T37 t194 x16_1).f0.f0))) (fun _ hk => hk.2) (.int .i64 ((rd_T37 t194 x16_1).f0.f1))) (fun _ hk => hk.2) (.int .i64 ((rd_T37 t194 x16_1).f1.f0))) (fun _ hk => hk.2) (.int .i64 ((rd_T37 t194 x16_1).f1.f1))) (fun _ hk => hk.2) (.int .i64 ((rd_T37 t194 x16_1).f2))) (fun _ hk => hk.2) (.int .i32 ((rd_T37 t194 x16_1).f3))) (fun _ h_ => h_.1)))) (by decide) hg); have n1_ := Aside0.mk (blk_grown (g := gb199) (o := .cells #[.int .i64 ((rd_T37 t194 x16_1).f0.f0), .int .i64 ((rd_T37 t194 x16_1).f0.f1), .int .i64 ((rd_T37 t194 x16_1).f1.f0), .int .i64 ((rd_T37 t194 x16_1).f1.f1), .int .i64 ((rd_T37 t194 x16_1).f2), .int .i32 ((rd_T37 t194 x16_1).f3)] 37 (0, 0)) (by (with_reducible repeat (first | refine blk_drewN ?_ _ | refine blk_drew ?_ | refine blk_alloc ?_ _)); refine blk_put (cs := #[.int .i64 ((rd_T37 t194 x16_1).f0.f0), .int .i64 ((rd_T37 t194 x16_1).f0.f1), .int .i64 ((rd_T37 t194 x16_1).f1.f0), .int .i64 ((rd_T37 t194 x16_1).f1.f1), .int .i64 ((rd_T37 t194 x16_1).f2), .int .i32 0]) ?_ 5 _ rfl; (with_reducible repeat (first | refine blk_drewN ?_ _ | refine blk_drew ?_ | refine blk_alloc ?_ _)); refine blk_put (cs := #[.int .i64 ((rd_T37 t194 x16_1).f0.f0), .int .i64 ((rd_T37 t194 x16_1).f0.f1), .int .i64 ((rd_T37 t194 x16_1).f1.f0), .int .i64 ((rd_T37 t194 x16_1).f1.f1), .int .i64 0, .int .i32 0]) ?_ 4 _ rfl; (with_reducible repeat (first | refine blk_drewN ?_ _ | refine blk_drew ?_ | refine blk_alloc ?_ _)); refine blk_put (cs := #[.int .i64 ((rd_T37 t194 x16_1).f0.f0), .int .i64 ((rd_T37 t194 x16_1).f0.f1), .int .i64 ((rd_T37 t194 x16_1).f1.f0), .int .i64 0, .int .i64 0, .int .i32 0]) ?_ 3 _ rfl; (with_reducible repeat (first | refine blk_drewN ?_ _ | refine blk_drew ?_ | refine blk_alloc ?_ _)); refine blk_put (cs := #[.int .i64 ((rd_T37 t194 x16_1).f0.f0), .int .i64 ((rd_T37 t194 x16_1).f0.f1), .int .i64 0, .int .i64 0, .int .i64 0, .int .i32 0]) ?_ 2 _ rfl; (with_reducible repeat (first | refine blk_drewN ?_ _ | refine blk_drew ?_ | refine blk_alloc ?_ _)); refine blk_put (cs := #[.int .i64 ((rd_T37 t194 x16_1).f0.f0), .int .i64 0, .int .i64 0, .int .i64 0, .int .i64 0, .int .i32 0]) ?_ 1 _ rfl; (with_reducible repeat (first | refine blk_drewN ?_ _ | refine blk_drew ?_ | refine blk_alloc ?_ _)); refine blk_put (cs := #[.int .i64 0, .int .i64 0, .int .i64 0, .int .i64 0, .int .i64 0, .int .i32 0]) ?_ 0 _ rfl; (with_reducible repeat (first | refine blk_drewN ?_ _ | refine blk_drew ?_ | refine blk_alloc ?_ _)); exact BK199.out) hg (Kd.R_ne HO_6.out BK199.out (by decide))); have n2_ := Aside0.mk (hb); have n3_ := Aside0.mk (ho); clear HO_14; clear BK199; clear HB; clear HO_6; have HO_14 := n0_; have BK199 := n1_; have HB := n2_; have HO202 := n3_; clear n0_ n1_ n2_ n3_; clear ho hb hg hat))
       go_roundg k1
       case measure => have := HK1.out; omega
       case rel => exact ⟨(y200), (wrap64 (x16_1 + 1)), (by first | rfl | (simp; done) | (simp [*]; done)), H', ⟨by have := HK1.out; omega⟩, ⟨by (with_reducible repeat (first | apply Kd.R_alloc | apply Kd.R_drewN | apply Kd.R_drew)); exact HO202.out⟩, ⟨by (with_reducible repeat (first | apply Kd.R_alloc | apply Kd.R_drewN | apply Kd.R_drew)); exact Kd.R_mono HO_14.out (fun _ hk => trivial)⟩, ⟨by repeat (first | (with_reducible first | exact HB.out | apply below_alloc | apply pw_below_drewN | apply below_drew1 | refine below_set ?_ GE199.out) | exact HB.out)⟩⟩
      ·
       rw [if_neg c8] at H
       exact absurd H (by simp)
     ·
      rw [if_neg c7] at H
      exact absurd H (by simp)
    ·
     rw [if_neg c6] at H
     exact absurd H (by simp)
   ·
    rw [if_neg c5] at H
    have c5b0 : decide (x16_1 < (t194.length : Int)) = false := decide_eq_false c5
    clear c5
    simp only [Option.some.injEq, Prod.mk.injEq] at H
    obtain ⟨rfl, rfl⟩ := H
    go_wp2
    go_ret2
    exact ⟨_, by first | rfl | (simp [errW_none, errW_some] <;> rfl) | (simp [*, errW_none, errW_some] <;> rfl), by (with_reducible repeat (first | apply Kd.R_alloc | apply Kd.R_drewN | apply Kd.R_drew)); exact HO_6.out, by repeat (first | (with_reducible first | exact HB.out | apply below_alloc | apply pw_below_drewN | apply below_drew1) | exact HB.out)⟩
end Go.Proofs.YtjlpaagnajmogaaDoor.PWalk
end
section
namespace Go.Proofs.YtjlpaagnajmogaaDoor.PWalk
open Go.RowKit Go.Proofs.YtjlpaagnajmogaaDoorW.PrintWords Go.Proofs.YtjlpaagnajmogaaDoorW.PrintLast Go.Proofs.YtjlpaagnajmogaaDoorW.PrintMore
set_option linter.unusedVariables false
set_option linter.unusedSimpArgs false
open Go.Shelf
attribute [local go_sem] Oper.semAt_some
theorem rune_at {w wr : World} {A : Option Addr} {n : Nat} {xs : List Int} (h : Kd.C (Kd.int .i32) w A n xs) (hb : Below w.heap.size w wr) (k : Nat) (x : Int) (hk : xs[k]? = some x) :
  ∃ ad, A = some ad ∧ wr.cell? (ad.add k) = some (.int .i32 x) := by
 have hl := Kd.C_len h
 have hlt := (List.getElem?_eq_some_iff.1 hk).1
 obtain ⟨ad, e, h0⟩ := Kd.at_int h (k : Int) (by omega) (by omega)
 have hd : rd xs (k : Int) = x := by simp [rd, hk]
 rw [hd] at h0
 simp only [Int.toNat_natCast] at h0
 exact ⟨ad, e, pw_cell_below hb h0⟩
def idxR (p : Int → Bool) (l : List Int) : Int := match l.findIdx? p with | some i => (i : Int) | none => -1
theorem idxR_at {p : Int → Bool} {l : List Int} {k : Nat} {x : Int} (hk : l[k]? = some x) (hx : p x = true) (hno : ∀ j y, j < k → l[j]? = some y → p y = false) : idxR p l = k := by
 unfold idxR
 rw [List.findIdx?_eq_some_iff_getElem.2 ⟨(List.getElem?_eq_some_iff.1 hk).1, by rw [(List.getElem?_eq_some_iff.1 hk).2]; exact hx, fun j hj => by rw [hno j _ hj (List.getElem?_eq_getElem _)]; simp⟩]
theorem idxR_none {p : Int → Bool} {l : List Int} (hno : ∀ j y, j < l.length → l[j]? = some y → p y = false) : idxR p l = -1 := by
 unfold idxR
 rw [List.findIdx?_eq_none_iff.2 fun x hx => by
  obtain ⟨j, hj⟩ := List.getElem?_of_mem hx
  exact hno j x (List.getElem?_eq_some_iff.1 hj).1 hj]
theorem noR_step {p : Int → Bool} {l : List Int} {k : Nat} {x : Int} (hk : l[k]? = some x) (hx : p x = false) (hno : ∀ j y, j < k → l[j]? = some y → p y = false) : ∀ j y, j < k + 1 → l[j]? = some y → p y = false := by
 intro j y hj hy
 rcases Nat.lt_succ_iff_lt_or_eq.1 hj with h | h
 ·
  exact hno j y h hy
 ·
  subst h; rw [hk] at hy; cases hy; exact hx
set_option maxHeartbeats 400000 in
theorem IndexFuncRune.calls (p : Int → Bool) (fn : Nat) (A0 : Option Addr) (c0 : Nat) (l0 : List Int) (w : World) (hr0 : Kd.C (Kd.int .i32) w A0 l0.length l0) (hc0 : l0.length ≤ c0)
  (hcall : ∀ args W, (callFunc fn args).run Tryd.prog W = .ok (.enter fn args) W)
  (hp : ∀ x W, Calls Tryd.prog fn #[.int .i32 x] W fun e W' => e = .returned (.bool (p x)) ∧ Below W.heap.size W W') :
  Calls Tryd.prog 87 #[.slice A0 l0.length c0, .func (.func fn) #[] #[]] w fun e w' => e = .returned (.int .i64 (idxR p l0)) ∧ Below w.heap.size w w' := by
 have hm := Kd.C_max hr0
 have HR := Aside0.mk hr0
 have HP := Aside0.mk hp
 have HC := Aside0.mk hc0
 clear hr0 hp hc0
 go_enter Tryd.func87, Tryd.ntmps87
 go_wp2
 go_loopw [5, 8] (fun _ i wr => ∃ k : Nat, k ≤ l0.length ∧ i = .int .i64 k ∧ Aside0 (∀ j y, j < k → l0[j]? = some y → p y = false) ∧ Aside0 (Below w.heap.size w wr)) (fun _ i _ => l0.length - (intOf i).toNat)
 case atStart => exact ⟨0, Nat.zero_le _, rfl, ⟨fun j y hj => absurd hj (Nat.not_lt_zero _)⟩, ⟨Below.refl _ _⟩⟩
 case round =>
  obtain ⟨k, hk, rfl, hno, hb⟩ := hrel
  by_cases hlt : k < l0.length
  ·
   obtain ⟨x, hx⟩ : ∃ x, Aside0 (l0[k]? = some x) := ⟨_, ⟨List.getElem?_eq_getElem hlt⟩⟩
   obtain ⟨ad, e, h0⟩ := rune_at HR.out hb.out k x hx.out
   subst e
   cases hpx : p x with
   | true =>
    have HX := Aside0.mk hpx
    clear hpx
    go_wp2
    refine (HP.out x _).mono ?_
    rintro e W' ⟨rfl, hb2⟩
    rw [HX.out]
    go_wp2
    go_ret
    exact ⟨by rw [idxR_at hx.out HX.out hno.out]; rfl, below_then hb.out hb.out.size hb2⟩
   | false =>
    have HX := Aside0.mk hpx
    clear hpx
    go_wp2
    refine (HP.out x _).mono ?_
    rintro e W' ⟨rfl, hb2⟩
    rw [HX.out]
    go_wp2
    go_roundw
    case rel => exact ⟨k + 1, by omega, by go_num, ⟨noR_step hx.out HX.out hno.out⟩, ⟨below_then hb.out hb.out.size hb2⟩⟩
    case measure => simp [intOf]; omega
  ·
   go_wp2
   go_ret
   obtain rfl : k = l0.length := by omega
   exact ⟨by rw [idxR_none hno.out]; rfl, hb.out⟩
set_option maxHeartbeats 400000 in
theorem ContainsFuncRune.calls (p : Int → Bool) (fn : Nat) (A0 : Option Addr) (c0 : Nat) (l0 : List Int) (w : World) (hr0 : Kd.C (Kd.int .i32) w A0 l0.length l0) (hc0 : l0.length ≤ c0)
  (hcall : ∀ args W, (callFunc fn args).run Tryd.prog W = .ok (.enter fn args) W)
  (hp : ∀ x W, Calls Tryd.prog fn #[.int .i32 x] W fun e W' => e = .returned (.bool (p x)) ∧ Below W.heap.size W W') :
  Calls Tryd.prog 75 #[.slice A0 l0.length c0, .func (.func fn) #[] #[]] w fun e w' => e = .returned (.bool (l0.any p)) ∧ Below w.heap.size w w' := by
 have HI := Aside0.mk (IndexFuncRune.calls p fn A0 c0 l0 w hr0 hc0 hcall hp)
 clear hr0 hc0 hp hcall
 go_enter Tryd.func75, Tryd.ntmps75
 go_wp2_with fail
 refine HI.out.mono ?_
 rintro e W' ⟨rfl, hb⟩
 have hi : decide (idxR p l0 ≥ 0) = l0.any p := by
  unfold idxR
  cases h : l0.findIdx? p with
  | none => simp [List.findIdx?_eq_none_iff] at h; simp; exact h
  | some i => simp; exact ⟨_, List.getElem_mem (List.findIdx?_eq_some_iff_getElem.1 h).1, (List.findIdx?_eq_some_iff_getElem.1 h).2.1⟩
 have HI2 := Aside0.mk hi
 clear hi
 go_wp2
 go_ret
 exact ⟨by rw [← HI2.out]; rfl, hb⟩
theorem badRune_call (r : Int) (W : World) : Calls Tryd.prog 76 #[.int .i32 r] W fun e W' => e = .returned (.bool (!runeOk r)) ∧ Below W.heap.size W W' := by
 go_enter Tryd.func76, Tryd.ntmps76
 go_wp2_with fail
 refine (runes_Valid.calls 10 r (runeOk r) W (runesValid_is 9 r)).mono ?_
 rintro e W' ⟨rfl, hd⟩
 have HB := Aside0.mk (hd.below)
 clear hd
 go_wp2
 go_ret
 exact ⟨rfl, HB.out⟩
def runes_Encode.f (l0 : List Int) : Option (ByteArray × Int) := if l0.length ≤ 1000000 then some (if l0.any (fun r => !runeOk r) = true then (⟨#[]⟩, 13) else (runesBytes l0, 0)) else none
set_option maxHeartbeats 400000 in
theorem runes_Encode.calls (A0 : Option Addr) (c0 : Nat) (l0 : List Int) (r1 : ByteArray) (r2 : Int) (w : World) (hr0 : Kd.C (Kd.int .i32) w A0 l0.length l0) (hc0 : l0.length ≤ c0) (h : runes_Encode.f l0 = some (r1, r2)) :
  Calls Tryd.prog 54 #[.slice A0 l0.length c0] w fun e w' => e = .returned (.tuple #[.string r1, .int .i64 r2]) ∧ Below w.heap.size w w' := by
 unfold runes_Encode.f at h
 by_cases hl : l0.length ≤ 1000000
 rotate_left
 ·
  rw [if_neg hl] at h; cases h
 rw [if_pos hl] at h
 have HF := Aside0.mk (ContainsFuncRune.calls (fun r => !runeOk r) 76 A0 c0 l0 w hr0 hc0 (enters_of Tryd.func76 (by kernel_rfl) rfl) badRune_call)
 have HH := Aside0.mk (Option.some.inj h)
 have HR := Aside0.mk hr0
 clear h hr0 hc0
 have hcv : ∀ W, Below w.heap.size w W → (convert 50 9 (.slice A0 l0.length c0)).run Tryd.prog W = .ok (.string (runesBytes l0)) W := by
  intro W hb
  have hC := Kd.C_below HR.out hb
  by_cases h0 : 0 < l0.length
  ·
   obtain ⟨x, hx⟩ : ∃ x, l0[0]? = some x := ⟨_, List.getElem?_eq_getElem h0⟩
   obtain ⟨ad, rfl, _⟩ := rune_at hC (Below.refl _ W) 0 x hx
   have := run_convert_runes (P := Tryd.prog) W 50 9 21 ad l0.length c0 l0 (Nat.le_refl _) Tryd.underlying50 Tryd.underlying21 Tryd.underlying9 (fun j hj => by
    obtain ⟨ad2, e2, hc⟩ := rune_at hC (Below.refl _ W) j l0[j] (List.getElem?_eq_getElem hj)
    cases e2
    rw [hc]; simp [List.getD, hj])
   rw [List.take_length] at this
   exact this
  ·
   obtain rfl : l0 = [] := List.eq_nil_of_length_eq_zero (by omega)
   cases A0 with
   | none => exact run_convert_runes_nil (P := Tryd.prog) W 50 9 21 _ _ Tryd.underlying50 Tryd.underlying21 Tryd.underlying9
   | some ad => exact run_convert_runes (P := Tryd.prog) W 50 9 21 ad 0 c0 [] (Nat.le_refl _) Tryd.underlying50 Tryd.underlying21 Tryd.underlying9 (fun j hj => absurd hj (Nat.not_lt_zero _))
 have HCV := Aside0.mk hcv
 clear hcv hl
 obtain ⟨b, Hb⟩ : ∃ b, Aside0 (l0.any (fun r => !runeOk r) = b) := ⟨_, ⟨rfl⟩⟩
 rw [Hb.out] at HF HH
 go_enter Tryd.func54, Tryd.ntmps54
 go_wp2_with fail
 refine HF.out.mono ?_
 rintro e W ⟨rfl, hb⟩
 have hcv := HCV.out W hb
 have HB := Aside0.mk hb
 clear hb HF HCV
 cases b with
 | true =>
  obtain ⟨rfl, rfl⟩ : r1 = ⟨#[]⟩ ∧ r2 = 13 := by
   have := HH.out
   rw [if_pos rfl] at this
   cases this
   exact ⟨rfl, rfl⟩
  clear hcv
  go_wp2
  go_ret2
  exact ⟨rfl, HB.out⟩
 | false =>
  obtain ⟨rfl, rfl⟩ : r1 = runesBytes l0 ∧ r2 = 0 := by
   have := HH.out
   rw [if_neg (by decide)] at this
   cases this
   exact ⟨rfl, rfl⟩
  go_wp2
  go_ret2
  exact ⟨rfl, HB.out⟩
end Go.Proofs.YtjlpaagnajmogaaDoor.PWalk
end
section
namespace Go.Proofs.YtjlpaagnajmogaaDoor.PWalk
open Go.RowKit Go.Proofs.YtjlpaagnajmogaaDoorW.PrintWords Go.Proofs.YtjlpaagnajmogaaDoorW.PrintLast Go.Proofs.YtjlpaagnajmogaaDoorW.PrintMore
set_option linter.unusedVariables false
set_option linter.unusedSimpArgs false
def index_Text.f (k : Nat) (l0 : List (S37)) : Option (ByteArray × Int) := (index_Runes.f k l0).bind fun bt203 => (if bt203.2 = 0 then ((runes_Encode.f bt203.1).bind fun bt207 => (some (bt207.1, bt207.2))) else (some ((⟨#[]⟩ : ByteArray), bt203.2)))
set_option maxHeartbeats 8000000 in
set_option maxRecDepth 100000 in
theorem index_Text.calls (k : Nat) (A0 : Option Addr) (c0 : Nat) (l0 : List (S37)) (r1 : ByteArray) (r2 : Int) (w : World) (hr0 : Kd.C k37 w A0 l0.length l0) (hc0 : l0.length ≤ c0) (h : index_Text.f k l0 = some (r1, r2)) :
  Calls Tryd.prog 23 #[.slice A0 l0.length c0] w fun e w' => e = .returned (.tuple #[.string r1, .int .i64 r2]) ∧ Below w.heap.size w w' := by
 have HR0 := Aside0.mk hr0
 have HC0 := Aside0.mk hc0
 clear hr0 hc0
 have HB := Aside0.mk (Below.refl w.heap.size w)
 have H : ((index_Runes.f k l0).bind fun bt203 => (if bt203.2 = 0 then ((runes_Encode.f bt203.1).bind fun bt207 => (some (bt207.1, bt207.2))) else (some ((⟨#[]⟩ : ByteArray), bt203.2)))) = some (r1, r2) := h
 clear h
 replace H := Option.bind_eq_some_iff.mp H
 obtain ⟨⟨t203, t204⟩, A20, H⟩ := H
 replace H : (if t204 = 0 then ((runes_Encode.f t203).bind fun bt207 => (some (bt207.1, bt207.2))) else (some ((⟨#[]⟩ : ByteArray), t204))) = some (r1, r2) := H
 have A2 := Aside0.mk A20
 clear A20
 by_cases c3 : t204 = 0
 ·
  rw [if_pos c3] at H
  have c3b0 : (t204 == 0) = true := beq_iff_eq.mpr c3
  have c3b1 : (t204 != 0) = false := bne_eq_false_iff_eq.mpr c3
  clear c3
  replace H := Option.bind_eq_some_iff.mp H
  obtain ⟨⟨t207, t208⟩, A40, H⟩ := H
  replace H : (some (t207, t208)) = some (r1, r2) := H
  have A4 := Aside0.mk A40
  clear A40
  simp only [Option.some.injEq, Prod.mk.injEq] at H
  obtain ⟨rfl, rfl⟩ := H
  go_enter Tryd.func23, Tryd.ntmps23
  go_wp2_with (first | ((with_reducible refine gate_callee (f := 24) rfl ?_); refine goesL_ (some 8) rfl rfl Tryd.func24 (by kernel_rfl) rfl #[.slice A0 l0.length c0] rfl (by (try simp only [List.map_toArray, List.map_cons, List.map_nil]); first | done | rfl | (simp only [List.length_drop, List.length_take]; rfl)) ?_; (with_reducible refine (index_Runes.calls k _ _ l0 t203 t204 _ ?side1 ?side2 A2.out).mono ?_); (case side1 => repeat (first | exact HR0.out | (with_reducible refine Kd.C_alloc ?_ _) | (with_reducible refine Kd.C_drewN ?_ _) | (with_reducible refine Kd.C_drew ?_))); (case side2 => exact HC0.out); rintro e w5 ⟨v205, rfl, ho0, hb⟩; refine ⟨_, rfl, ?_⟩; have n0_ := Aside0.mk (Kd.R_lower ho0 (below_size (by repeat (first | (with_reducible first | exact HB.out | apply below_alloc | apply pw_below_drewN | apply below_drew1) | exact HB.out)))); have n1_ := Aside0.mk (below_step (by repeat (first | (with_reducible first | exact HB.out | apply below_alloc | apply pw_below_drewN | apply below_drew1) | exact HB.out)) hb); clear HB; have HO206 := n0_; have HB := n1_; clear n0_ n1_; (try clear hb); (try clear hb2); (try clear hk); (try clear hi); (try clear ho0); obtain ⟨Ao6, co6, eo6⟩ := Kd.R_slice HO206.out; subst eo6) | ((with_reducible refine gate_callee (f := 54) rfl ?_); refine goesL_ (some 15) rfl rfl Tryd.func54 (by kernel_rfl) rfl #[.slice Ao6 t203.length co6] rfl (by (try simp only [List.map_toArray, List.map_cons, List.map_nil]); first | done | rfl | (simp only [List.length_drop, List.length_take]; rfl)) ?_; (with_reducible refine (runes_Encode.calls _ _ t203 t207 t208 _ ?side1 ?side2 A4.out).mono ?_); (case side1 => repeat (first | exact (Kd.R_reads' HO206.out).2.2 | (with_reducible refine Kd.C_alloc ?_ _) | (with_reducible refine Kd.C_drewN ?_ _) | (with_reducible refine Kd.C_drew ?_))); (case side2 => exact (Kd.R_reads' HO206.out).2.1); rintro e w7 ⟨rfl, hb⟩; refine ⟨_, rfl, ?_⟩; have n0_ := Aside0.mk (Kd.R_below (by (with_reducible repeat (first | apply Kd.R_alloc | apply Kd.R_drewN | apply Kd.R_drew)); exact HO206.out) hb); have n1_ := Aside0.mk (below_step (by repeat (first | (with_reducible first | exact HB.out | apply below_alloc | apply pw_below_drewN | apply below_drew1) | exact HB.out)) hb); clear HO206; clear HB; have HO206 := n0_; have HB := n1_; clear n0_ n1_; (try clear hb); (try clear hb2); (try clear hk); (try clear hi)))
  go_ret2
  exact ⟨by first | rfl | (simp [errW_none, errW_some] <;> rfl) | (simp [*, errW_none, errW_some] <;> rfl), by repeat (first | (with_reducible first | exact HB.out | apply below_alloc | apply pw_below_drewN | apply below_drew1) | exact HB.out)⟩
 ·
  rw [if_neg c3] at H
  have c3b0 : (t204 == 0) = false := beq_eq_false_iff_ne.mpr c3
  have c3b1 : (t204 != 0) = true := bne_iff_ne.mpr c3
  simp only [Option.some.injEq, Prod.mk.injEq] at H
  obtain ⟨rfl, rfl⟩ := H
  go_enter Tryd.func23, Tryd.ntmps23
  go_wp2_with (first | ((with_reducible refine gate_callee (f := 24) rfl ?_); refine goesL_ (some 8) rfl rfl Tryd.func24 (by kernel_rfl) rfl #[.slice A0 l0.length c0] rfl (by (try simp only [List.map_toArray, List.map_cons, List.map_nil]); first | done | rfl | (simp only [List.length_drop, List.length_take]; rfl)) ?_; (with_reducible refine (index_Runes.calls k _ _ l0 t203 t204 _ ?side1 ?side2 A2.out).mono ?_); (case side1 => repeat (first | exact HR0.out | (with_reducible refine Kd.C_alloc ?_ _) | (with_reducible refine Kd.C_drewN ?_ _) | (with_reducible refine Kd.C_drew ?_))); (case side2 => exact HC0.out); rintro e w8 ⟨v205, rfl, ho0, hb⟩; refine ⟨_, rfl, ?_⟩; have n0_ := Aside0.mk (Kd.R_lower ho0 (below_size (by repeat (first | (with_reducible first | exact HB.out | apply below_alloc | apply pw_below_drewN | apply below_drew1) | exact HB.out)))); have n1_ := Aside0.mk (below_step (by repeat (first | (with_reducible first | exact HB.out | apply below_alloc | apply pw_below_drewN | apply below_drew1) | exact HB.out)) hb); clear HB; have HO206 := n0_; have HB := n1_; clear n0_ n1_; (try clear hb); (try clear hb2); (try clear hk); (try clear hi); (try clear ho0)))
  go_ret2
  exact ⟨by first | rfl | (simp [errW_none, errW_some] <;> rfl) | (simp [*, errW_none, errW_some] <;> rfl), by repeat (first | (with_reducible first | exact HB.out | apply below_alloc | apply pw_below_drewN | apply below_drew1) | exact HB.out)⟩
def redpencillaw12_texts.f (k : Nat) (l0 : List (S37)) (a1 : ByteArray) (a2 : Int) : Option (Bool) := (index_Text.f k l0).bind fun bt209 => (if bt209.1.toList = a1.toList then (some (bt209.2 == a2)) else (some false))
set_option maxHeartbeats 8000000 in
set_option maxRecDepth 100000 in
theorem redpencillaw12_texts.calls (k : Nat) (A0 : Option Addr) (c0 : Nat) (l0 : List (S37)) (a1 : ByteArray) (a2 : Int) (r : Bool) (w : World) (hr0 : Kd.C k37 w A0 l0.length l0) (hc0 : l0.length ≤ c0) (h : redpencillaw12_texts.f k l0 a1 a2 = some r) :
  Calls Tryd.prog 49 #[.slice A0 l0.length c0, .string a1, .int .i64 a2] w fun e w' => e = .returned (.bool r) ∧ Below w.heap.size w w' := by
 have HR0 := Aside0.mk hr0
 have HC0 := Aside0.mk hc0
 clear hr0 hc0
 have HB := Aside0.mk (Below.refl w.heap.size w)
 have H : ((index_Text.f k l0).bind fun bt209 => (if bt209.1.toList = a1.toList then (some (bt209.2 == a2)) else (some false))) = some r := h
 clear h
 replace H := Option.bind_eq_some_iff.mp H
 obtain ⟨⟨t209, t210⟩, A40, H⟩ := H
 replace H : (if t209.toList = a1.toList then (some (t210 == a2)) else (some false)) = some r := H
 have A4 := Aside0.mk A40
 clear A40
 by_cases c5 : t209.toList = a1.toList
 ·
  rw [if_pos c5] at H
  have c5b0 : (t209.toList == a1.toList) = true := beq_iff_eq.mpr c5
  have c5b1 : (t209.toList != a1.toList) = false := bne_eq_false_iff_eq.mpr c5
  clear c5
  obtain rfl := Option.some.inj H
  go_enter Tryd.func49, Tryd.ntmps49
  go_wp2_with (first | ((with_reducible refine gate_callee (f := 23) rfl ?_); refine goesL_ (some 11) rfl rfl Tryd.func23 (by kernel_rfl) rfl #[.slice A0 l0.length c0] rfl (by (try simp only [List.map_toArray, List.map_cons, List.map_nil]); first | done | rfl | (simp only [List.length_drop, List.length_take]; rfl)) ?_; (with_reducible refine (index_Text.calls k _ _ l0 t209 t210 _ ?side1 ?side2 A4.out).mono ?_); (case side1 => repeat (first | exact HR0.out | (with_reducible refine Kd.C_alloc ?_ _) | (with_reducible refine Kd.C_drewN ?_ _) | (with_reducible refine Kd.C_drew ?_))); (case side2 => exact HC0.out); rintro e w6 ⟨rfl, hb⟩; refine ⟨_, rfl, ?_⟩; have n0_ := Aside0.mk (below_step (by repeat (first | (with_reducible first | exact HB.out | apply below_alloc | apply pw_below_drewN | apply below_drew1) | exact HB.out)) hb); clear HB; have HB := n0_; clear n0_; (try clear hb); (try clear hb2); (try clear hk); (try clear hi)))
  go_ret
  exact ⟨by first | rfl | (simp [errW_none, errW_some] <;> rfl) | (simp [*, errW_none, errW_some] <;> rfl), by repeat (first | (with_reducible first | exact HB.out | apply below_alloc | apply pw_below_drewN | apply below_drew1) | exact HB.out)⟩
 ·
  rw [if_neg c5] at H
  have c5b0 : (t209.toList == a1.toList) = false := beq_eq_false_iff_ne.mpr c5
  have c5b1 : (t209.toList != a1.toList) = true := bne_iff_ne.mpr c5
  obtain rfl := Option.some.inj H
  go_enter Tryd.func49, Tryd.ntmps49
  go_wp2_with (first | ((with_reducible refine gate_callee (f := 23) rfl ?_); refine goesL_ (some 11) rfl rfl Tryd.func23 (by kernel_rfl) rfl #[.slice A0 l0.length c0] rfl (by (try simp only [List.map_toArray, List.map_cons, List.map_nil]); first | done | rfl | (simp only [List.length_drop, List.length_take]; rfl)) ?_; (with_reducible refine (index_Text.calls k _ _ l0 t209 t210 _ ?side1 ?side2 A4.out).mono ?_); (case side1 => repeat (first | exact HR0.out | (with_reducible refine Kd.C_alloc ?_ _) | (with_reducible refine Kd.C_drewN ?_ _) | (with_reducible refine Kd.C_drew ?_))); (case side2 => exact HC0.out); rintro e w7 ⟨rfl, hb⟩; refine ⟨_, rfl, ?_⟩; have n0_ := Aside0.mk (below_step (by repeat (first | (with_reducible first | exact HB.out | apply below_alloc | apply pw_below_drewN | apply below_drew1) | exact HB.out)) hb); clear HB; have HB := n0_; clear n0_; (try clear hb); (try clear hb2); (try clear hk); (try clear hi)))
  go_ret
  exact ⟨by first | rfl | (simp [errW_none, errW_some] <;> rfl) | (simp [*, errW_none, errW_some] <;> rfl), by repeat (first | (with_reducible first | exact HB.out | apply below_alloc | apply pw_below_drewN | apply below_drew1) | exact HB.out)⟩
end Go.Proofs.YtjlpaagnajmogaaDoor.PWalk
end
section
namespace Go.Proofs.YtjlpaagnajmogaaDoor.PWalk
open Go.RowKit Go.Proofs.YtjlpaagnajmogaaDoorW.PrintWords Go.Proofs.YtjlpaagnajmogaaDoorW.PrintLast Go.Proofs.YtjlpaagnajmogaaDoorW.PrintMore
set_option linter.unusedVariables false
set_option linter.unusedSimpArgs false
theorem eqA37 (d : Nat) (w : World) (x0 y0 : Int) (x1 y1 : Int) (x2 y2 : Int) (x3 y3 : Int) (x4 y4 : Int) (x5 y5 : Int) :
  (Op.equalIn (d + 3) 37 (.agg #[.int .i64 x0, .int .i64 x1, .int .i64 x2, .int .i64 x3, .int .i64 x4, .int .i32 x5]) (.agg #[.int .i64 y0, .int .i64 y1, .int .i64 y2, .int .i64 y3, .int .i64 y4, .int .i32 y5])).run Tryd.prog w = .ok ((x0 == y0 && (x1 == y1)) && ((x2 == y2 && (x3 == y3)) && (x4 == y4 && (x5 == y5)))) w := by
 refine eqA_of Tryd.underlying37 (by kernel_rfl) ?_
 refine eqf_cons (by rfl) (by go_simp) (by go_simp) (eqA35 (d + 0) w _ _ _ _) ?_
 refine eqf_cons (by rfl) (by go_simp) (by go_simp) (eqA35 (d + 0) w _ _ _ _) ?_
 refine eqf_cons (by rfl) (by go_simp; rfl) (by go_simp; rfl) (by go_simp) ?_
 exact eqf_last (by rfl) (by go_simp; rfl) (by go_simp; rfl) (by go_simp)
end Go.Proofs.YtjlpaagnajmogaaDoor.PWalk
end
