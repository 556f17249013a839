/-
  The law EditDeletes of layer 15 holds for all states, indices and numbers. Part 9 of 12.
-/
import Derived.Test.YtmbndijbpgobeaaGreatEH
import Derived.Laws.Tables
section
namespace Go.Proofs.YtmbndijbpgobeaaGreat.PWalk
open Go.RowKit Go.Proofs.YtmbndijbpgobeaaGreatW.PrintWords Go.Proofs.YtmbndijbpgobeaaGreatW.PrintLast Go.Proofs.YtmbndijbpgobeaaGreatW.PrintMore
attribute [local go_sem] max2_int max_two
set_option linter.unusedVariables false
set_option linter.unusedSimpArgs false
def edit_Insert.f (l0 : List (S53)) (a1_0 : Int) (a1_1 : Int) (a2 : Int) (l3 : List Int) : Option ((List (S53)) × Int) := (edit_Replace.f l0 a1_0 a1_1 a2 0 l3).bind fun bt192 => (some (bt192.1, bt192.2))
set_option maxHeartbeats 8000000 in
set_option maxRecDepth 100000 in
theorem edit_Insert.calls (A0 : Option Addr) (c0 : Nat) (l0 : List (S53)) (a1_0 : Int) (a1_1 : Int) (a2 : Int) (A3 : Option Addr) (c3 : Nat) (l3 : List Int) (r1 : List (S53)) (r2 : Int) (w : World) (hr0 : Kd.C k53 w A0 l0.length l0) (hc0 : l0.length ≤ c0) (hr3 : Kd.C (Kd.int .i32) w A3 l3.length l3) (hc3 : l3.length ≤ c3) (h : edit_Insert.f l0 a1_0 a1_1 a2 l3 = some (r1, r2)) :
  Calls Tryz.prog 14 #[.slice A0 l0.length c0, .agg #[.int .i64 a1_0, .int .i64 a1_1], .int .i64 a2, .slice A3 l3.length c3] w fun e w' => ∃ v0_ : Value, e = .returned (.tuple #[v0_, .int .i64 r2]) ∧ Kd.R k53 53 w' w.heap.size (fun _ => True) v0_ r1 ∧ Below w.heap.size w w' := by
 have hu25 := Tryz.underlying25
 have HR0 := Aside0.mk hr0
 have HC0 := Aside0.mk hc0
 clear hr0 hc0
 have HR3 := Aside0.mk hr3
 have HC3 := Aside0.mk hc3
 clear hr3 hc3
 have HB := Aside0.mk (Below.refl w.heap.size w)
 have H : ((edit_Replace.f l0 a1_0 a1_1 a2 0 l3).bind fun bt192 => (some (bt192.1, bt192.2))) = some (r1, r2) := h
 clear h
 replace H := Option.bind_eq_some_iff.mp H
 obtain ⟨⟨t192, t195⟩, A50, H⟩ := H
 replace H : (some (t192, t195)) = some (r1, r2) := H
 have A5 := Aside0.mk A50
 clear A50
 simp only [Option.some.injEq, Prod.mk.injEq] at H
 obtain ⟨rfl, rfl⟩ := H
 go_enter Tryz.func14, Tryz.ntmps14
 go_wp2_with (first | ((with_reducible refine gate_dst (N := 5) rfl ?_); refine box_event ?hg (N := 5) ?hd (cs := #[.int .i64 a1_0, .int .i64 a1_1]) (t := 25) ?hr ?_; (case hd => rfl); (case hg => rfl); (case hr => first | (go_simp; done) | (go_simp; rfl)); intro gb191 hg w6 hbox hb; have n0_ := Aside0.mk (below_step (by repeat (first | (with_reducible first | exact HB.out | apply below_alloc | apply pw_below_drewN | apply below_drew1) | exact HB.out)) hb); have n1_ := Aside0.mk (hbox); have n2_ := Aside0.mk ((by rw [hg]; exact (below_size (by repeat (first | (with_reducible first | exact HB.out | apply below_alloc | apply pw_below_drewN | apply below_drew1) | exact HB.out))) : w.heap.size ≤ gb191)); have n3_ := Aside0.mk ((by rw [hg]; exact (below_size (by repeat (first | (with_reducible first | exact HB.out | apply below_alloc | apply pw_below_drewN | apply below_drew1) | exact HB.out))) : w.heap.size ≤ gb191)); clear HB; have HB := n0_; have BK191 := n1_; have GW191 := n2_; have GE191 := n3_; clear n0_ n1_ n2_ n3_; clear hb hbox hg; have hcz7_0 : w6.cell? ⟨gb191, 0, none⟩ = some (.int .i64 a1_0) := (blk_cell BK191.out 0).trans rfl; have hcz7_1 : w6.cell? ⟨gb191, 1, none⟩ = some (.int .i64 a1_1) := (blk_cell BK191.out 1).trans rfl; have hfz7_0 := blk_frozen BK191.out 0; have hfz7_1 := blk_frozen BK191.out 1) | ((with_reducible refine gate_callee (f := 22) rfl ?_); refine goesL_ (some 14) rfl rfl Tryz.func22 (by kernel_rfl) rfl #[.slice A0 l0.length c0, .agg #[.int .i64 a1_0, .int .i64 a1_1], .int .i64 a2, .int .i64 0, .slice A3 l3.length c3] rfl (by (try simp only [List.map_toArray, List.map_cons, List.map_nil]); first | done | rfl | (simp only [List.length_drop, List.length_take]; rfl)) ?_; (with_reducible refine (edit_Replace.calls _ _ l0 a1_0 a1_1 a2 0 _ _ l3 t192 t195 _ ?side1 ?side2 ?side3 ?side4 A5.out).mono ?_); (case side1 => repeat (first | exact (Kd.C_below HR0.out HB.out) | (with_reducible refine Kd.C_alloc ?_ _) | (with_reducible refine Kd.C_drewN ?_ _) | (with_reducible refine Kd.C_drew ?_))); (case side2 => exact HC0.out); (case side3 => repeat (first | exact (Kd.C_below HR3.out HB.out) | (with_reducible refine Kd.C_alloc ?_ _) | (with_reducible refine Kd.C_drewN ?_ _) | (with_reducible refine Kd.C_drew ?_))); (case side4 => exact HC3.out); rintro e w8 ⟨v193, rfl, ho0, hb⟩; refine ⟨_, rfl, ?_⟩; have n0_ := Aside0.mk (Kd.R_lower ho0 (below_size (by repeat (first | (with_reducible first | exact HB.out | apply below_alloc | apply pw_below_drewN | apply below_drew1 | refine below_set ?_ GE191.out) | exact HB.out)))); have n1_ := Aside0.mk (blk_below (g := gb191) (o := .cells #[.int .i64 a1_0, .int .i64 a1_1] 25 (0, 0)) (by (with_reducible repeat (first | refine blk_drewN ?_ _ | refine blk_drew ?_ | refine blk_alloc ?_ _)); exact BK191.out) hb); have n2_ := Aside0.mk (below_step (by repeat (first | (with_reducible first | exact HB.out | apply below_alloc | apply pw_below_drewN | apply below_drew1 | refine below_set ?_ GE191.out) | exact HB.out)) hb); clear BK191; clear HB; have HO194 := n0_; have BK191 := n1_; have HB := n2_; clear n0_ n1_ n2_; (try clear hb); (try clear hb2); (try clear hk); (try clear hi); (try clear ho0)))
 go_ret2
 exact ⟨_, by first | rfl | (simp [errW_none, errW_some] <;> rfl) | (simp [*, errW_none, errW_some] <;> rfl), by (with_reducible repeat (first | apply Kd.R_alloc | apply Kd.R_drewN | apply Kd.R_drew)); exact HO194.out, by repeat (first | (with_reducible first | exact HB.out | apply below_alloc | apply pw_below_drewN | apply below_drew1 | refine below_set ?_ GE191.out) | exact HB.out)⟩
end Go.Proofs.YtmbndijbpgobeaaGreat.PWalk
end
section
namespace Go.Proofs.YtmbndijbpgobeaaGreat.PWalk
open Go.RowKit Go.Proofs.YtmbndijbpgobeaaGreatW.PrintWords Go.Proofs.YtmbndijbpgobeaaGreatW.PrintLast Go.Proofs.YtmbndijbpgobeaaGreatW.PrintMore
attribute [local go_sem] max2_int max_two
set_option linter.unusedVariables false
set_option linter.unusedSimpArgs false
attribute [local go_sem high] eqA53
def redpencilref14_Same.l0 : Nat → List (S53) → List (S53) → Int → Option (Bool)
 | 0, _, _, _ => none
 | k + 1, x0, x1, x5 => if x5 < (x0.length : Int) then (if 0 ≤ x5 then (if x5 < (x1.length : Int) then (if ((!(((rd_T53 x0 x5).f0.f0) == ((rd_T53 x1 x5).f0.f0)) || (!(((rd_T53 x0 x5).f0.f1) == ((rd_T53 x1 x5).f0.f1)))) || ((!(((rd_T53 x0 x5).f1.f0) == ((rd_T53 x1 x5).f1.f0)) || (!(((rd_T53 x0 x5).f1.f1) == ((rd_T53 x1 x5).f1.f1)))) || (!(((rd_T53 x0 x5).f2) == ((rd_T53 x1 x5).f2)) || (!(((rd_T53 x0 x5).f3) == ((rd_T53 x1 x5).f3)))))) = true then (some false) else (redpencilref14_Same.l0 k x0 x1 (wrap64 (x5 + 1)))) else (none)) else (none)) else (some true)
def redpencilref14_Same.f (k : Nat) (l0 : List (S53)) (l1 : List (S53)) : Option (Bool) := if (l0.length : Int) = (l1.length : Int) then (redpencilref14_Same.l0 k l0 l1 0) else (some false)
set_option maxHeartbeats 8000000 in
set_option maxRecDepth 100000 in
theorem redpencilref14_Same.calls (k : Nat) (A0 : Option Addr) (c0 : Nat) (l0 : List (S53)) (A1 : Option Addr) (c1 : Nat) (l1 : List (S53)) (r : Bool) (w : World) (hr0 : Kd.C k53 w A0 l0.length l0) (hc0 : l0.length ≤ c0) (hr1 : Kd.C k53 w A1 l1.length l1) (hc1 : l1.length ≤ c1) (h : redpencilref14_Same.f k l0 l1 = some r) :
  Calls Tryz.prog 20 #[.slice A0 l0.length c0, .slice A1 l1.length c1] w fun e w' => e = .returned (.bool r) ∧ Drawn0 w w' := by
 have hu53 := Tryz.underlying53
 have HR0 := Aside0.mk hr0
 have HC0 := Aside0.mk hc0
 clear hr0 hc0
 have HR1 := Aside0.mk hr1
 have HC1 := Aside0.mk hc1
 clear hr1 hc1
 have H : (if (l0.length : Int) = (l1.length : Int) then (redpencilref14_Same.l0 k l0 l1 0) else (some false)) = some r := h
 clear h
 by_cases c3 : (l0.length : Int) = (l1.length : Int)
 ·
  rw [if_pos c3] at H
  have c3b0 : ((l0.length : Int) == (l1.length : Int)) = true := beq_iff_eq.mpr c3
  have c3b1 : ((l0.length : Int) != (l1.length : Int)) = false := bne_eq_false_iff_eq.mpr c3
  have c3b2 : (l0.length == l1.length) = true := by first | simpa using c3 | (simp at c3 ⊢; omega)
  clear c3
  have H' := Aside0.mk H
  clear H
  go_enter Tryz.func20, Tryz.ntmps20
  go_wp2
  repeat (go_quiet (fail); try go_wp2)
  go_loopg [5] k (fun kq v5 w' => ∃ (x5_1 : Int), v5 = .int .i64 x5_1 ∧ Aside0 (redpencilref14_Same.l0 kq l0 l1 x5_1 = some r) ∧ Aside0 (kq ≤ k) ∧ Drawn0 w w')
  case atStart => exact ⟨(0), (by first | rfl | (simp; done) | (simp [*]; done)), H', ⟨Nat.le_refl _⟩, by repeat (first | exact Drawn0.refl _ | apply Drawn0.step)⟩
  case round =>
   clear H'
   try clear c1
   try clear c2
   try clear p2
   try clear c3
   try clear c3b0
   try clear c3b1
   try clear c3b2
   obtain ⟨x5_1, rfl, HA, HK1, ⟨m1, rfl⟩⟩ := hrel
   cases gk with
   | zero => exact absurd HA.out (by simp [redpencilref14_Same.l0])
   | succ k1 =>
    have H := HA.out
    clear HA
    simp only [redpencilref14_Same.l0] at H
    by_cases c4 : x5_1 < (l0.length : Int)
    ·
     rw [if_pos c4] at H
     have c4b0 : decide (x5_1 < (l0.length : Int)) = true := decide_eq_true c4
     clear c4
     by_cases c5 : 0 ≤ x5_1
     ·
      rw [if_pos c5] at H
      have c5b0 : decide (0 ≤ x5_1) = true := decide_eq_true c5
      clear c5
      by_cases c6 : x5_1 < (l1.length : Int)
      ·
       rw [if_pos c6] at H
       have c6b0 : decide (x5_1 < (l1.length : Int)) = true := decide_eq_true c6
       clear c6
       by_cases c7 : ((!(((rd_T53 l0 x5_1).f0.f0) == ((rd_T53 l1 x5_1).f0.f0)) || (!(((rd_T53 l0 x5_1).f0.f1) == ((rd_T53 l1 x5_1).f0.f1)))) || ((!(((rd_T53 l0 x5_1).f1.f0) == ((rd_T53 l1 x5_1).f1.f0)) || (!(((rd_T53 l0 x5_1).f1.f1) == ((rd_T53 l1 x5_1).f1.f1)))) || (!(((rd_T53 l0 x5_1).f2) == ((rd_T53 l1 x5_1).f2)) || (!(((rd_T53 l0 x5_1).f3) == ((rd_T53 l1 x5_1).f3)))))) = true
       ·
        rw [if_pos c7] at H
        have c7b0 : ((!(((rd_T53 l0 x5_1).f0.f0) == ((rd_T53 l1 x5_1).f0.f0)) || (!(((rd_T53 l0 x5_1).f0.f1) == ((rd_T53 l1 x5_1).f0.f1)))) || ((!(((rd_T53 l0 x5_1).f1.f0) == ((rd_T53 l1 x5_1).f1.f0)) || (!(((rd_T53 l0 x5_1).f1.f1) == ((rd_T53 l1 x5_1).f1.f1)))) || (!(((rd_T53 l0 x5_1).f2) == ((rd_T53 l1 x5_1).f2)) || (!(((rd_T53 l0 x5_1).f3) == ((rd_T53 l1 x5_1).f3)))))) = true := c7
        clear c7
        obtain rfl := Option.some.inj H
        have p196 : 0 ≤ (x5_1 : Int) := of_decide_eq_true (by first | (with_reducible assumption) | assumption)
        have q196 : x5_1 < (l0.length : Int) := of_decide_eq_true (by first | (with_reducible assumption) | assumption)
        obtain ⟨ad196, e196, hx196_0, hx196_1, hx196_2, hx196_3, hx196_4, hx196_5⟩ := at_T53 HR0.out x5_1 p196 q196
        cases e196
        replace p196 := eq_true p196
        replace q196 := eq_true q196
        have p197 : 0 ≤ (x5_1 : Int) := of_decide_eq_true (by first | (with_reducible assumption) | assumption)
        have q197 : x5_1 < (l1.length : Int) := of_decide_eq_true (by first | (with_reducible assumption) | assumption)
        obtain ⟨ad197, e197, hx197_0, hx197_1, hx197_2, hx197_3, hx197_4, hx197_5⟩ := at_T53 HR1.out x5_1 p197 q197
        cases e197
        replace p197 := eq_true p197
        replace q197 := eq_true q197
        go_wp2
        repeat (go_quiet (fail); try go_wp2)
        go_ret
        exact ⟨by first | rfl | (simp; done) | (simp [*]; done), by repeat (first | exact Drawn0.refl _ | apply Drawn0.step)⟩
       ·
        rw [if_neg c7] at H
        have c7b0 : ((!(((rd_T53 l0 x5_1).f0.f0) == ((rd_T53 l1 x5_1).f0.f0)) || (!(((rd_T53 l0 x5_1).f0.f1) == ((rd_T53 l1 x5_1).f0.f1)))) || ((!(((rd_T53 l0 x5_1).f1.f0) == ((rd_T53 l1 x5_1).f1.f0)) || (!(((rd_T53 l0 x5_1).f1.f1) == ((rd_T53 l1 x5_1).f1.f1)))) || (!(((rd_T53 l0 x5_1).f2) == ((rd_T53 l1 x5_1).f2)) || (!(((rd_T53 l0 x5_1).f3) == ((rd_T53 l1 x5_1).f3)))))) = false := by simpa using c7
        clear c7
        have H' := Aside0.mk H
        clear H
        have p196 : 0 ≤ (x5_1 : Int) := of_decide_eq_true (by first | (with_reducible assumption) | assumption)
        have q196 : x5_1 < (l0.length : Int) := of_decide_eq_true (by first | (with_reducible assumption) | assumption)
        obtain ⟨ad196, e196, hx196_0, hx196_1, hx196_2, hx196_3, hx196_4, hx196_5⟩ := at_T53 HR0.out x5_1 p196 q196
        cases e196
        replace p196 := eq_true p196
        replace q196 := eq_true q196
        have p197 : 0 ≤ (x5_1 : Int) := of_decide_eq_true (by first | (with_reducible assumption) | assumption)
        have q197 : x5_1 < (l1.length : Int) := of_decide_eq_true (by first | (with_reducible assumption) | assumption)
        obtain ⟨ad197, e197, hx197_0, hx197_1, hx197_2, hx197_3, hx197_4, hx197_5⟩ := at_T53 HR1.out x5_1 p197 q197
        cases e197
        replace p197 := eq_true p197
        replace q197 := eq_true q197
        go_wp2
        repeat (go_quiet (fail); try go_wp2)
        go_roundg k1
        case measure => have := HK1.out; omega
        case rel => exact ⟨(wrap64 (x5_1 + 1)), (by first | rfl | (simp; done) | (simp [*]; done)), H', ⟨by have := HK1.out; omega⟩, by repeat (first | exact Drawn0.refl _ | apply Drawn0.step)⟩
      ·
       rw [if_neg c6] at H
       exact absurd H (by simp)
     ·
      rw [if_neg c5] at H
      exact absurd H (by simp)
    ·
     rw [if_neg c4] at H
     have c4b0 : decide (x5_1 < (l0.length : Int)) = false := decide_eq_false c4
     clear c4
     obtain rfl := Option.some.inj H
     go_wp2
     repeat (go_quiet (fail); try go_wp2)
     go_ret
     exact ⟨by first | rfl | (simp; done) | (simp [*]; done), by repeat (first | exact Drawn0.refl _ | apply Drawn0.step)⟩
 ·
  rw [if_neg c3] at H
  have c3b0 : ((l0.length : Int) == (l1.length : Int)) = false := beq_eq_false_iff_ne.mpr c3
  have c3b1 : ((l0.length : Int) != (l1.length : Int)) = true := bne_iff_ne.mpr c3
  have c3b2 : (l0.length == l1.length) = false := by first | simpa using c3 | (simp at c3 ⊢; omega)
  obtain rfl := Option.some.inj H
  go_enter Tryz.func20, Tryz.ntmps20
  go_wp2
  repeat (go_quiet (fail); try go_wp2)
  go_ret
  exact ⟨by first | rfl | (simp; done) | (simp [*]; done), by repeat (first | exact Drawn0.refl _ | apply Drawn0.step)⟩
def redpencillaw15_inserts.f (k : Nat) (l0 : List (S53)) (a1_0 : Int) (a1_1 : Int) (a2 : Int) (l3 : List Int) (l4 : List (S53)) (a5 : Int) : Option (Bool) := (edit_Insert.f l0 a1_0 a1_1 a2 l3).bind fun bt199 => ((redpencilref14_Same.f k bt199.1 l4).bind fun t203 => (if t203 = true then (some (bt199.2 == a5)) else (some false)))
set_option maxHeartbeats 8000000 in
set_option maxRecDepth 100000 in
theorem redpencillaw15_inserts.calls (k : Nat) (A0 : Option Addr) (c0 : Nat) (l0 : List (S53)) (a1_0 : Int) (a1_1 : Int) (a2 : Int) (A3 : Option Addr) (c3 : Nat) (l3 : List Int) (A4 : Option Addr) (c4 : Nat) (l4 : List (S53)) (a5 : Int) (r : Bool) (w : World) (hr0 : Kd.C k53 w A0 l0.length l0) (hc0 : l0.length ≤ c0) (hr3 : Kd.C (Kd.int .i32) w A3 l3.length l3) (hc3 : l3.length ≤ c3) (hr4 : Kd.C k53 w A4 l4.length l4) (hc4 : l4.length ≤ c4) (h : redpencillaw15_inserts.f k l0 a1_0 a1_1 a2 l3 l4 a5 = some r) :
  Calls Tryz.prog 13 #[.slice A0 l0.length c0, .agg #[.int .i64 a1_0, .int .i64 a1_1], .int .i64 a2, .slice A3 l3.length c3, .slice A4 l4.length c4, .int .i64 a5] w fun e w' => e = .returned (.bool r) ∧ Below w.heap.size w w' := by
 have hu25 := Tryz.underlying25
 have HR0 := Aside0.mk hr0
 have HC0 := Aside0.mk hc0
 clear hr0 hc0
 have HR3 := Aside0.mk hr3
 have HC3 := Aside0.mk hc3
 clear hr3 hc3
 have HR4 := Aside0.mk hr4
 have HC4 := Aside0.mk hc4
 clear hr4 hc4
 have HB := Aside0.mk (Below.refl w.heap.size w)
 have H : ((edit_Insert.f l0 a1_0 a1_1 a2 l3).bind fun bt199 => ((redpencilref14_Same.f k bt199.1 l4).bind fun t203 => (if t203 = true then (some (bt199.2 == a5)) else (some false)))) = some r := h
 clear h
 replace H := Option.bind_eq_some_iff.mp H
 obtain ⟨⟨t199, t202⟩, A70, H⟩ := H
 replace H : ((redpencilref14_Same.f k t199 l4).bind fun t203 => (if t203 = true then (some (t202 == a5)) else (some false))) = some r := H
 have A7 := Aside0.mk A70
 clear A70
 replace H := Option.bind_eq_some_iff.mp H
 obtain ⟨t203, A80, H⟩ := H
 replace H : (if t203 = true then (some (t202 == a5)) else (some false)) = some r := H
 have A8 := Aside0.mk A80
 clear A80
 by_cases c9 : t203 = true
 ·
  subst c9
  have H1 : (some (t202 == a5)) = some r := by rw [if_pos rfl] at H; exact H
  clear H
  have H := H1
  clear H1
  obtain rfl := Option.some.inj H
  go_enter Tryz.func13, Tryz.ntmps13
  go_wp2_with (first | ((with_reducible refine gate_dst (N := 7) rfl ?_); refine box_event ?hg (N := 7) ?hd (cs := #[.int .i64 a1_0, .int .i64 a1_1]) (t := 25) ?hr ?_; (case hd => rfl); (case hg => rfl); (case hr => first | (go_simp; done) | (go_simp; rfl)); intro gb198 hg w10 hbox hb; have n0_ := Aside0.mk (below_step (by repeat (first | (with_reducible first | exact HB.out | apply below_alloc | apply pw_below_drewN | apply below_drew1) | exact HB.out)) hb); have n1_ := Aside0.mk (hbox); have n2_ := Aside0.mk ((by rw [hg]; exact (below_size (by repeat (first | (with_reducible first | exact HB.out | apply below_alloc | apply pw_below_drewN | apply below_drew1) | exact HB.out))) : w.heap.size ≤ gb198)); have n3_ := Aside0.mk ((by rw [hg]; exact (below_size (by repeat (first | (with_reducible first | exact HB.out | apply below_alloc | apply pw_below_drewN | apply below_drew1) | exact HB.out))) : w.heap.size ≤ gb198)); clear HB; have HB := n0_; have BK198 := n1_; have GW198 := n2_; have GE198 := n3_; clear n0_ n1_ n2_ n3_; clear hb hbox hg; have hcz11_0 : w10.cell? ⟨gb198, 0, none⟩ = some (.int .i64 a1_0) := (blk_cell BK198.out 0).trans rfl; have hcz11_1 : w10.cell? ⟨gb198, 1, none⟩ = some (.int .i64 a1_1) := (blk_cell BK198.out 1).trans rfl; have hfz11_0 := blk_frozen BK198.out 0; have hfz11_1 := blk_frozen BK198.out 1) | ((with_reducible refine gate_callee (f := 14) rfl ?_); refine goesL_ (some 20) rfl rfl Tryz.func14 (by kernel_rfl) rfl #[.slice A0 l0.length c0, .agg #[.int .i64 a1_0, .int .i64 a1_1], .int .i64 a2, .slice A3 l3.length c3] rfl (by (try simp only [List.map_toArray, List.map_cons, List.map_nil]); first | done | rfl | (simp only [List.length_drop, List.length_take]; rfl)) ?_; (with_reducible refine (edit_Insert.calls _ _ l0 a1_0 a1_1 a2 _ _ l3 t199 t202 _ ?side1 ?side2 ?side3 ?side4 A7.out).mono ?_); (case side1 => repeat (first | exact (Kd.C_below HR0.out HB.out) | (with_reducible refine Kd.C_alloc ?_ _) | (with_reducible refine Kd.C_drewN ?_ _) | (with_reducible refine Kd.C_drew ?_))); (case side2 => exact HC0.out); (case side3 => repeat (first | exact (Kd.C_below HR3.out HB.out) | (with_reducible refine Kd.C_alloc ?_ _) | (with_reducible refine Kd.C_drewN ?_ _) | (with_reducible refine Kd.C_drew ?_))); (case side4 => exact HC3.out); rintro e w12 ⟨v200, rfl, ho0, hb⟩; refine ⟨_, rfl, ?_⟩; have n0_ := Aside0.mk (Kd.R_lower ho0 (below_size (by repeat (first | (with_reducible first | exact HB.out | apply below_alloc | apply pw_below_drewN | apply below_drew1 | refine below_set ?_ GE198.out) | exact HB.out)))); have n1_ := Aside0.mk (blk_below (g := gb198) (o := .cells #[.int .i64 a1_0, .int .i64 a1_1] 25 (0, 0)) (by (with_reducible repeat (first | refine blk_drewN ?_ _ | refine blk_drew ?_ | refine blk_alloc ?_ _)); exact BK198.out) hb); have n2_ := Aside0.mk (below_step (by repeat (first | (with_reducible first | exact HB.out | apply below_alloc | apply pw_below_drewN | apply below_drew1 | refine below_set ?_ GE198.out) | exact HB.out)) hb); clear BK198; clear HB; have HO201 := n0_; have BK198 := n1_; have HB := n2_; clear n0_ n1_ n2_; (try clear hb); (try clear hb2); (try clear hk); (try clear hi); (try clear ho0); obtain ⟨Ao13, co13, eo13⟩ := Kd.R_slice HO201.out; subst eo13) | ((with_reducible refine gate_callee (f := 20) rfl ?_); refine goesL_ (some 25) rfl rfl Tryz.func20 (by kernel_rfl) rfl #[.slice Ao13 t199.length co13, .slice A4 l4.length c4] rfl (by (try simp only [List.map_toArray, List.map_cons, List.map_nil]); first | done | rfl | (simp only [List.length_drop, List.length_take]; rfl)) ?_; (with_reducible refine (redpencilref14_Same.calls k _ _ t199 _ _ l4 true _ ?side1 ?side2 ?side3 ?side4 A8.out).mono ?_); (case side1 => repeat (first | exact (Kd.R_reads' HO201.out).2.2 | (with_reducible refine Kd.C_alloc ?_ _) | (with_reducible refine Kd.C_drewN ?_ _) | (with_reducible refine Kd.C_drew ?_))); (case side2 => exact (Kd.R_reads' HO201.out).2.1); (case side3 => repeat (first | exact (Kd.C_below HR4.out HB.out) | (with_reducible refine Kd.C_alloc ?_ _) | (with_reducible refine Kd.C_drewN ?_ _) | (with_reducible refine Kd.C_drew ?_))); (case side4 => exact HC4.out); rintro e w' ⟨rfl, ⟨nd, rfl⟩⟩; refine ⟨_, rfl, ?_⟩))
  go_ret
  exact ⟨by first | rfl | (simp [errW_none, errW_some] <;> rfl) | (simp [*, errW_none, errW_some] <;> rfl), by repeat (first | (with_reducible first | exact HB.out | apply below_alloc | apply pw_below_drewN | apply below_drew1 | refine below_set ?_ GE198.out) | exact HB.out)⟩
 ·
  replace c9 := Bool.eq_false_iff.mpr c9
  subst c9
  have H1 : (some false) = some r := by rw [if_neg (show ¬ (false = true) by decide)] at H; exact H
  clear H
  have H := H1
  clear H1
  obtain rfl := Option.some.inj H
  go_enter Tryz.func13, Tryz.ntmps13
  go_wp2_with (first | ((with_reducible refine gate_dst (N := 7) rfl ?_); refine box_event ?hg (N := 7) ?hd (cs := #[.int .i64 a1_0, .int .i64 a1_1]) (t := 25) ?hr ?_; (case hd => rfl); (case hg => rfl); (case hr => first | (go_simp; done) | (go_simp; rfl)); intro gb198 hg w14 hbox hb; have n0_ := Aside0.mk (below_step (by repeat (first | (with_reducible first | exact HB.out | apply below_alloc | apply pw_below_drewN | apply below_drew1) | exact HB.out)) hb); have n1_ := Aside0.mk (hbox); have n2_ := Aside0.mk ((by rw [hg]; exact (below_size (by repeat (first | (with_reducible first | exact HB.out | apply below_alloc | apply pw_below_drewN | apply below_drew1) | exact HB.out))) : w.heap.size ≤ gb198)); have n3_ := Aside0.mk ((by rw [hg]; exact (below_size (by repeat (first | (with_reducible first | exact HB.out | apply below_alloc | apply pw_below_drewN | apply below_drew1) | exact HB.out))) : w.heap.size ≤ gb198)); clear HB; have HB := n0_; have BK198 := n1_; have GW198 := n2_; have GE198 := n3_; clear n0_ n1_ n2_ n3_; clear hb hbox hg; have hcz15_0 : w14.cell? ⟨gb198, 0, none⟩ = some (.int .i64 a1_0) := (blk_cell BK198.out 0).trans rfl; have hcz15_1 : w14.cell? ⟨gb198, 1, none⟩ = some (.int .i64 a1_1) := (blk_cell BK198.out 1).trans rfl; have hfz15_0 := blk_frozen BK198.out 0; have hfz15_1 := blk_frozen BK198.out 1) | ((with_reducible refine gate_callee (f := 14) rfl ?_); refine goesL_ (some 20) rfl rfl Tryz.func14 (by kernel_rfl) rfl #[.slice A0 l0.length c0, .agg #[.int .i64 a1_0, .int .i64 a1_1], .int .i64 a2, .slice A3 l3.length c3] rfl (by (try simp only [List.map_toArray, List.map_cons, List.map_nil]); first | done | rfl | (simp only [List.length_drop, List.length_take]; rfl)) ?_; (with_reducible refine (edit_Insert.calls _ _ l0 a1_0 a1_1 a2 _ _ l3 t199 t202 _ ?side1 ?side2 ?side3 ?side4 A7.out).mono ?_); (case side1 => repeat (first | exact (Kd.C_below HR0.out HB.out) | (with_reducible refine Kd.C_alloc ?_ _) | (with_reducible refine Kd.C_drewN ?_ _) | (with_reducible refine Kd.C_drew ?_))); (case side2 => exact HC0.out); (case side3 => repeat (first | exact (Kd.C_below HR3.out HB.out) | (with_reducible refine Kd.C_alloc ?_ _) | (with_reducible refine Kd.C_drewN ?_ _) | (with_reducible refine Kd.C_drew ?_))); (case side4 => exact HC3.out); rintro e w16 ⟨v200, rfl, ho0, hb⟩; refine ⟨_, rfl, ?_⟩; have n0_ := Aside0.mk (Kd.R_lower ho0 (below_size (by repeat (first | (with_reducible first | exact HB.out | apply below_alloc | apply pw_below_drewN | apply below_drew1 | refine below_set ?_ GE198.out) | exact HB.out)))); have n1_ := Aside0.mk (blk_below (g := gb198) (o := .cells #[.int .i64 a1_0, .int .i64 a1_1] 25 (0, 0)) (by (with_reducible repeat (first | refine blk_drewN ?_ _ | refine blk_drew ?_ | refine blk_alloc ?_ _)); exact BK198.out) hb); have n2_ := Aside0.mk (below_step (by repeat (first | (with_reducible first | exact HB.out | apply below_alloc | apply pw_below_drewN | apply below_drew1 | refine below_set ?_ GE198.out) | exact HB.out)) hb); clear BK198; clear HB; have HO201 := n0_; have BK198 := n1_; have HB := n2_; clear n0_ n1_ n2_; (try clear hb); (try clear hb2); (try clear hk); (try clear hi); (try clear ho0); obtain ⟨Ao17, co17, eo17⟩ := Kd.R_slice HO201.out; subst eo17) | ((with_reducible refine gate_callee (f := 20) rfl ?_); refine goesL_ (some 25) rfl rfl Tryz.func20 (by kernel_rfl) rfl #[.slice Ao17 t199.length co17, .slice A4 l4.length c4] rfl (by (try simp only [List.map_toArray, List.map_cons, List.map_nil]); first | done | rfl | (simp only [List.length_drop, List.length_take]; rfl)) ?_; (with_reducible refine (redpencilref14_Same.calls k _ _ t199 _ _ l4 false _ ?side1 ?side2 ?side3 ?side4 A8.out).mono ?_); (case side1 => repeat (first | exact (Kd.R_reads' HO201.out).2.2 | (with_reducible refine Kd.C_alloc ?_ _) | (with_reducible refine Kd.C_drewN ?_ _) | (with_reducible refine Kd.C_drew ?_))); (case side2 => exact (Kd.R_reads' HO201.out).2.1); (case side3 => repeat (first | exact (Kd.C_below HR4.out HB.out) | (with_reducible refine Kd.C_alloc ?_ _) | (with_reducible refine Kd.C_drewN ?_ _) | (with_reducible refine Kd.C_drew ?_))); (case side4 => exact HC4.out); rintro e w' ⟨rfl, ⟨nd, rfl⟩⟩; refine ⟨_, rfl, ?_⟩))
  go_ret
  exact ⟨by first | rfl | (simp [errW_none, errW_some] <;> rfl) | (simp [*, errW_none, errW_some] <;> rfl), by repeat (first | (with_reducible first | exact HB.out | apply below_alloc | apply pw_below_drewN | apply below_drew1 | refine below_set ?_ GE198.out) | exact HB.out)⟩
def redpencillaw15_deletes.f (k : Nat) (l0 : List (S53)) (a1 : Int) (a2 : Int) (l3 : List (S53)) (a4 : Int) : Option (Bool) := (edit_Delete.f l0 a1 a2).bind fun bt204 => ((redpencilref14_Same.f k bt204.1 l3).bind fun t208 => (if t208 = true then (some (bt204.2 == a4)) else (some false)))
set_option maxHeartbeats 8000000 in
set_option maxRecDepth 100000 in
theorem redpencillaw15_deletes.calls (k : Nat) (A0 : Option Addr) (c0 : Nat) (l0 : List (S53)) (a1 : Int) (a2 : Int) (A3 : Option Addr) (c3 : Nat) (l3 : List (S53)) (a4 : Int) (r : Bool) (w : World) (hr0 : Kd.C k53 w A0 l0.length l0) (hc0 : l0.length ≤ c0) (hr3 : Kd.C k53 w A3 l3.length l3) (hc3 : l3.length ≤ c3) (h : redpencillaw15_deletes.f k l0 a1 a2 l3 a4 = some r) :
  Calls Tryz.prog 18 #[.slice A0 l0.length c0, .int .i64 a1, .int .i64 a2, .slice A3 l3.length c3, .int .i64 a4] w fun e w' => e = .returned (.bool r) ∧ Below w.heap.size w w' := by
 have HR0 := Aside0.mk hr0
 have HC0 := Aside0.mk hc0
 clear hr0 hc0
 have HR3 := Aside0.mk hr3
 have HC3 := Aside0.mk hc3
 clear hr3 hc3
 have HB := Aside0.mk (Below.refl w.heap.size w)
 have H : ((edit_Delete.f l0 a1 a2).bind fun bt204 => ((redpencilref14_Same.f k bt204.1 l3).bind fun t208 => (if t208 = true then (some (bt204.2 == a4)) else (some false)))) = some r := h
 clear h
 replace H := Option.bind_eq_some_iff.mp H
 obtain ⟨⟨t204, t205⟩, A60, H⟩ := H
 replace H : ((redpencilref14_Same.f k t204 l3).bind fun t208 => (if t208 = true then (some (t205 == a4)) else (some false))) = some r := H
 have A6 := Aside0.mk A60
 clear A60
 replace H := Option.bind_eq_some_iff.mp H
 obtain ⟨t208, A70, H⟩ := H
 replace H : (if t208 = true then (some (t205 == a4)) else (some false)) = some r := H
 have A7 := Aside0.mk A70
 clear A70
 by_cases c8 : t208 = true
 ·
  subst c8
  have H1 : (some (t205 == a4)) = some r := by rw [if_pos rfl] at H; exact H
  clear H
  have H := H1
  clear H1
  obtain rfl := Option.some.inj H
  go_enter Tryz.func18, Tryz.ntmps18
  go_wp2_with (first | ((with_reducible refine gate_callee (f := 19) rfl ?_); refine goesL_ (some 17) rfl rfl Tryz.func19 (by kernel_rfl) rfl #[.slice A0 l0.length c0, .int .i64 a1, .int .i64 a2] rfl (by (try simp only [List.map_toArray, List.map_cons, List.map_nil]); first | done | rfl | (simp only [List.length_drop, List.length_take]; rfl)) ?_; (with_reducible refine (edit_Delete.calls _ _ l0 a1 a2 t204 t205 _ ?side1 ?side2 A6.out).mono ?_); (case side1 => repeat (first | exact HR0.out | (with_reducible refine Kd.C_alloc ?_ _) | (with_reducible refine Kd.C_drewN ?_ _) | (with_reducible refine Kd.C_drew ?_))); (case side2 => exact HC0.out); rintro e w9 ⟨v206, rfl, ho0, hb⟩; refine ⟨_, rfl, ?_⟩; have n0_ := Aside0.mk (Kd.R_lower ho0 (below_size (by repeat (first | (with_reducible first | exact HB.out | apply below_alloc | apply pw_below_drewN | apply below_drew1) | exact HB.out)))); have n1_ := Aside0.mk (below_step (by repeat (first | (with_reducible first | exact HB.out | apply below_alloc | apply pw_below_drewN | apply below_drew1) | exact HB.out)) hb); clear HB; have HO207 := n0_; have HB := n1_; clear n0_ n1_; (try clear hb); (try clear hb2); (try clear hk); (try clear hi); (try clear ho0); obtain ⟨Ao10, co10, eo10⟩ := Kd.R_slice HO207.out; subst eo10) | ((with_reducible refine gate_callee (f := 20) rfl ?_); refine goesL_ (some 22) rfl rfl Tryz.func20 (by kernel_rfl) rfl #[.slice Ao10 t204.length co10, .slice A3 l3.length c3] rfl (by (try simp only [List.map_toArray, List.map_cons, List.map_nil]); first | done | rfl | (simp only [List.length_drop, List.length_take]; rfl)) ?_; (with_reducible refine (redpencilref14_Same.calls k _ _ t204 _ _ l3 true _ ?side1 ?side2 ?side3 ?side4 A7.out).mono ?_); (case side1 => repeat (first | exact (Kd.R_reads' HO207.out).2.2 | (with_reducible refine Kd.C_alloc ?_ _) | (with_reducible refine Kd.C_drewN ?_ _) | (with_reducible refine Kd.C_drew ?_))); (case side2 => exact (Kd.R_reads' HO207.out).2.1); (case side3 => repeat (first | exact (Kd.C_below HR3.out HB.out) | (with_reducible refine Kd.C_alloc ?_ _) | (with_reducible refine Kd.C_drewN ?_ _) | (with_reducible refine Kd.C_drew ?_))); (case side4 => exact HC3.out); rintro e w' ⟨rfl, ⟨nd, rfl⟩⟩; refine ⟨_, rfl, ?_⟩))
  go_ret
  exact ⟨by first | rfl | (simp [errW_none, errW_some] <;> rfl) | (simp [*, errW_none, errW_some] <;> rfl), by repeat (first | (with_reducible first | exact HB.out | apply below_alloc | apply pw_below_drewN | apply below_drew1) | exact HB.out)⟩
 ·
  replace c8 := Bool.eq_false_iff.mpr c8
  subst c8
  have H1 : (some false) = some r := by rw [if_neg (show ¬ (false = true) by decide)] at H; exact H
  clear H
  have H := H1
  clear H1
  obtain rfl := Option.some.inj H
  go_enter Tryz.func18, Tryz.ntmps18
  go_wp2_with (first | ((with_reducible refine gate_callee (f := 19) rfl ?_); refine goesL_ (some 17) rfl rfl Tryz.func19 (by kernel_rfl) rfl #[.slice A0 l0.length c0, .int .i64 a1, .int .i64 a2] rfl (by (try simp only [List.map_toArray, List.map_cons, List.map_nil]); first | done | rfl | (simp only [List.length_drop, List.length_take]; rfl)) ?_; (with_reducible refine (edit_Delete.calls _ _ l0 a1 a2 t204 t205 _ ?side1 ?side2 A6.out).mono ?_); (case side1 => repeat (first | exact HR0.out | (with_reducible refine Kd.C_alloc ?_ _) | (with_reducible refine Kd.C_drewN ?_ _) | (with_reducible refine Kd.C_drew ?_))); (case side2 => exact HC0.out); rintro e w11 ⟨v206, rfl, ho0, hb⟩; refine ⟨_, rfl, ?_⟩; have n0_ := Aside0.mk (Kd.R_lower ho0 (below_size (by repeat (first | (with_reducible first | exact HB.out | apply below_alloc | apply pw_below_drewN | apply below_drew1) | exact HB.out)))); have n1_ := Aside0.mk (below_step (by repeat (first | (with_reducible first | exact HB.out | apply below_alloc | apply pw_below_drewN | apply below_drew1) | exact HB.out)) hb); clear HB; have HO207 := n0_; have HB := n1_; clear n0_ n1_; (try clear hb); (try clear hb2); (try clear hk); (try clear hi); (try clear ho0); obtain ⟨Ao12, co12, eo12⟩ := Kd.R_slice HO207.out; subst eo12) | ((with_reducible refine gate_callee (f := 20) rfl ?_); refine goesL_ (some 22) rfl rfl Tryz.func20 (by kernel_rfl) rfl #[.slice Ao12 t204.length co12, .slice A3 l3.length c3] rfl (by (try simp only [List.map_toArray, List.map_cons, List.map_nil]); first | done | rfl | (simp only [List.length_drop, List.length_take]; rfl)) ?_; (with_reducible refine (redpencilref14_Same.calls k _ _ t204 _ _ l3 false _ ?side1 ?side2 ?side3 ?side4 A7.out).mono ?_); (case side1 => repeat (first | exact (Kd.R_reads' HO207.out).2.2 | (with_reducible refine Kd.C_alloc ?_ _) | (with_reducible refine Kd.C_drewN ?_ _) | (with_reducible refine Kd.C_drew ?_))); (case side2 => exact (Kd.R_reads' HO207.out).2.1); (case side3 => repeat (first | exact (Kd.C_below HR3.out HB.out) | (with_reducible refine Kd.C_alloc ?_ _) | (with_reducible refine Kd.C_drewN ?_ _) | (with_reducible refine Kd.C_drew ?_))); (case side4 => exact HC3.out); rintro e w' ⟨rfl, ⟨nd, rfl⟩⟩; refine ⟨_, rfl, ?_⟩))
  go_ret
  exact ⟨by first | rfl | (simp [errW_none, errW_some] <;> rfl) | (simp [*, errW_none, errW_some] <;> rfl), by repeat (first | (with_reducible first | exact HB.out | apply below_alloc | apply pw_below_drewN | apply below_drew1) | exact HB.out)⟩
def redpencillaw15_replaces.f (k : Nat) (l0 : List (S53)) (a1_0 : Int) (a1_1 : Int) (a2 : Int) (a3 : Int) (l4 : List Int) (l5 : List (S53)) (a6 : Int) : Option (Bool) := (edit_Replace.f l0 a1_0 a1_1 a2 a3 l4).bind fun bt210 => ((redpencilref14_Same.f k bt210.1 l5).bind fun t214 => (if t214 = true then (some (bt210.2 == a6)) else (some false)))
set_option maxHeartbeats 8000000 in
set_option maxRecDepth 100000 in
theorem redpencillaw15_replaces.calls (k : Nat) (A0 : Option Addr) (c0 : Nat) (l0 : List (S53)) (a1_0 : Int) (a1_1 : Int) (a2 : Int) (a3 : Int) (A4 : Option Addr) (c4 : Nat) (l4 : List Int) (A5 : Option Addr) (c5 : Nat) (l5 : List (S53)) (a6 : Int) (r : Bool) (w : World) (hr0 : Kd.C k53 w A0 l0.length l0) (hc0 : l0.length ≤ c0) (hr4 : Kd.C (Kd.int .i32) w A4 l4.length l4) (hc4 : l4.length ≤ c4) (hr5 : Kd.C k53 w A5 l5.length l5) (hc5 : l5.length ≤ c5) (h : redpencillaw15_replaces.f k l0 a1_0 a1_1 a2 a3 l4 l5 a6 = some r) :
  Calls Tryz.prog 21 #[.slice A0 l0.length c0, .agg #[.int .i64 a1_0, .int .i64 a1_1], .int .i64 a2, .int .i64 a3, .slice A4 l4.length c4, .slice A5 l5.length c5, .int .i64 a6] w fun e w' => e = .returned (.bool r) ∧ Below w.heap.size w w' := by
 have hu25 := Tryz.underlying25
 have HR0 := Aside0.mk hr0
 have HC0 := Aside0.mk hc0
 clear hr0 hc0
 have HR4 := Aside0.mk hr4
 have HC4 := Aside0.mk hc4
 clear hr4 hc4
 have HR5 := Aside0.mk hr5
 have HC5 := Aside0.mk hc5
 clear hr5 hc5
 have HB := Aside0.mk (Below.refl w.heap.size w)
 have H : ((edit_Replace.f l0 a1_0 a1_1 a2 a3 l4).bind fun bt210 => ((redpencilref14_Same.f k bt210.1 l5).bind fun t214 => (if t214 = true then (some (bt210.2 == a6)) else (some false)))) = some r := h
 clear h
 replace H := Option.bind_eq_some_iff.mp H
 obtain ⟨⟨t210, t213⟩, A80, H⟩ := H
 replace H : ((redpencilref14_Same.f k t210 l5).bind fun t214 => (if t214 = true then (some (t213 == a6)) else (some false))) = some r := H
 have A8 := Aside0.mk A80
 clear A80
 replace H := Option.bind_eq_some_iff.mp H
 obtain ⟨t214, A90, H⟩ := H
 replace H : (if t214 = true then (some (t213 == a6)) else (some false)) = some r := H
 have A9 := Aside0.mk A90
 clear A90
 by_cases c10 : t214 = true
 ·
  subst c10
  have H1 : (some (t213 == a6)) = some r := by rw [if_pos rfl] at H; exact H
  clear H
  have H := H1
  clear H1
  obtain rfl := Option.some.inj H
  go_enter Tryz.func21, Tryz.ntmps21
  go_wp2_with (first | ((with_reducible refine gate_dst (N := 8) rfl ?_); refine box_event ?hg (N := 8) ?hd (cs := #[.int .i64 a1_0, .int .i64 a1_1]) (t := 25) ?hr ?_; (case hd => rfl); (case hg => rfl); (case hr => first | (go_simp; done) | (go_simp; rfl)); intro gb209 hg w11 hbox hb; have n0_ := Aside0.mk (below_step (by repeat (first | (with_reducible first | exact HB.out | apply below_alloc | apply pw_below_drewN | apply below_drew1) | exact HB.out)) hb); have n1_ := Aside0.mk (hbox); have n2_ := Aside0.mk ((by rw [hg]; exact (below_size (by repeat (first | (with_reducible first | exact HB.out | apply below_alloc | apply pw_below_drewN | apply below_drew1) | exact HB.out))) : w.heap.size ≤ gb209)); have n3_ := Aside0.mk ((by rw [hg]; exact (below_size (by repeat (first | (with_reducible first | exact HB.out | apply below_alloc | apply pw_below_drewN | apply below_drew1) | exact HB.out))) : w.heap.size ≤ gb209)); clear HB; have HB := n0_; have BK209 := n1_; have GW209 := n2_; have GE209 := n3_; clear n0_ n1_ n2_ n3_; clear hb hbox hg; have hcz12_0 : w11.cell? ⟨gb209, 0, none⟩ = some (.int .i64 a1_0) := (blk_cell BK209.out 0).trans rfl; have hcz12_1 : w11.cell? ⟨gb209, 1, none⟩ = some (.int .i64 a1_1) := (blk_cell BK209.out 1).trans rfl; have hfz12_0 := blk_frozen BK209.out 0; have hfz12_1 := blk_frozen BK209.out 1) | ((with_reducible refine gate_callee (f := 22) rfl ?_); refine goesL_ (some 23) rfl rfl Tryz.func22 (by kernel_rfl) rfl #[.slice A0 l0.length c0, .agg #[.int .i64 a1_0, .int .i64 a1_1], .int .i64 a2, .int .i64 a3, .slice A4 l4.length c4] rfl (by (try simp only [List.map_toArray, List.map_cons, List.map_nil]); first | done | rfl | (simp only [List.length_drop, List.length_take]; rfl)) ?_; (with_reducible refine (edit_Replace.calls _ _ l0 a1_0 a1_1 a2 a3 _ _ l4 t210 t213 _ ?side1 ?side2 ?side3 ?side4 A8.out).mono ?_); (case side1 => repeat (first | exact (Kd.C_below HR0.out HB.out) | (with_reducible refine Kd.C_alloc ?_ _) | (with_reducible refine Kd.C_drewN ?_ _) | (with_reducible refine Kd.C_drew ?_))); (case side2 => exact HC0.out); (case side3 => repeat (first | exact (Kd.C_below HR4.out HB.out) | (with_reducible refine Kd.C_alloc ?_ _) | (with_reducible refine Kd.C_drewN ?_ _) | (with_reducible refine Kd.C_drew ?_))); (case side4 => exact HC4.out); rintro e w13 ⟨v211, rfl, ho0, hb⟩; refine ⟨_, rfl, ?_⟩; have n0_ := Aside0.mk (Kd.R_lower ho0 (below_size (by repeat (first | (with_reducible first | exact HB.out | apply below_alloc | apply pw_below_drewN | apply below_drew1 | refine below_set ?_ GE209.out) | exact HB.out)))); have n1_ := Aside0.mk (blk_below (g := gb209) (o := .cells #[.int .i64 a1_0, .int .i64 a1_1] 25 (0, 0)) (by (with_reducible repeat (first | refine blk_drewN ?_ _ | refine blk_drew ?_ | refine blk_alloc ?_ _)); exact BK209.out) hb); have n2_ := Aside0.mk (below_step (by repeat (first | (with_reducible first | exact HB.out | apply below_alloc | apply pw_below_drewN | apply below_drew1 | refine below_set ?_ GE209.out) | exact HB.out)) hb); clear BK209; clear HB; have HO212 := n0_; have BK209 := n1_; have HB := n2_; clear n0_ n1_ n2_; (try clear hb); (try clear hb2); (try clear hk); (try clear hi); (try clear ho0); obtain ⟨Ao14, co14, eo14⟩ := Kd.R_slice HO212.out; subst eo14) | ((with_reducible refine gate_callee (f := 20) rfl ?_); refine goesL_ (some 28) rfl rfl Tryz.func20 (by kernel_rfl) rfl #[.slice Ao14 t210.length co14, .slice A5 l5.length c5] rfl (by (try simp only [List.map_toArray, List.map_cons, List.map_nil]); first | done | rfl | (simp only [List.length_drop, List.length_take]; rfl)) ?_; (with_reducible refine (redpencilref14_Same.calls k _ _ t210 _ _ l5 true _ ?side1 ?side2 ?side3 ?side4 A9.out).mono ?_); (case side1 => repeat (first | exact (Kd.R_reads' HO212.out).2.2 | (with_reducible refine Kd.C_alloc ?_ _) | (with_reducible refine Kd.C_drewN ?_ _) | (with_reducible refine Kd.C_drew ?_))); (case side2 => exact (Kd.R_reads' HO212.out).2.1); (case side3 => repeat (first | exact (Kd.C_below HR5.out HB.out) | (with_reducible refine Kd.C_alloc ?_ _) | (with_reducible refine Kd.C_drewN ?_ _) | (with_reducible refine Kd.C_drew ?_))); (case side4 => exact HC5.out); rintro e w' ⟨rfl, ⟨nd, rfl⟩⟩; refine ⟨_, rfl, ?_⟩))
  go_ret
  exact ⟨by first | rfl | (simp [errW_none, errW_some] <;> rfl) | (simp [*, errW_none, errW_some] <;> rfl), by repeat (first | (with_reducible first | exact HB.out | apply below_alloc | apply pw_below_drewN | apply below_drew1 | refine below_set ?_ GE209.out) | exact HB.out)⟩
 ·
  replace c10 := Bool.eq_false_iff.mpr c10
  subst c10
  have H1 : (some false) = some r := by rw [if_neg (show ¬ (false = true) by decide)] at H; exact H
  clear H
  have H := H1
  clear H1
  obtain rfl := Option.some.inj H
  go_enter Tryz.func21, Tryz.ntmps21
  go_wp2_with (first | ((with_reducible refine gate_dst (N := 8) rfl ?_); refine box_event ?hg (N := 8) ?hd (cs := #[.int .i64 a1_0, .int .i64 a1_1]) (t := 25) ?hr ?_; (case hd => rfl); (case hg => rfl); (case hr => first | (go_simp; done) | (go_simp; rfl)); intro gb209 hg w15 hbox hb; have n0_ := Aside0.mk (below_step (by repeat (first | (with_reducible first | exact HB.out | apply below_alloc | apply pw_below_drewN | apply below_drew1) | exact HB.out)) hb); have n1_ := Aside0.mk (hbox); have n2_ := Aside0.mk ((by rw [hg]; exact (below_size (by repeat (first | (with_reducible first | exact HB.out | apply below_alloc | apply pw_below_drewN | apply below_drew1) | exact HB.out))) : w.heap.size ≤ gb209)); have n3_ := Aside0.mk ((by rw [hg]; exact (below_size (by repeat (first | (with_reducible first | exact HB.out | apply below_alloc | apply pw_below_drewN | apply below_drew1) | exact HB.out))) : w.heap.size ≤ gb209)); clear HB; have HB := n0_; have BK209 := n1_; have GW209 := n2_; have GE209 := n3_; clear n0_ n1_ n2_ n3_; clear hb hbox hg; have hcz16_0 : w15.cell? ⟨gb209, 0, none⟩ = some (.int .i64 a1_0) := (blk_cell BK209.out 0).trans rfl; have hcz16_1 : w15.cell? ⟨gb209, 1, none⟩ = some (.int .i64 a1_1) := (blk_cell BK209.out 1).trans rfl; have hfz16_0 := blk_frozen BK209.out 0; have hfz16_1 := blk_frozen BK209.out 1) | ((with_reducible refine gate_callee (f := 22) rfl ?_); refine goesL_ (some 23) rfl rfl Tryz.func22 (by kernel_rfl) rfl #[.slice A0 l0.length c0, .agg #[.int .i64 a1_0, .int .i64 a1_1], .int .i64 a2, .int .i64 a3, .slice A4 l4.length c4] rfl (by (try simp only [List.map_toArray, List.map_cons, List.map_nil]); first | done | rfl | (simp only [List.length_drop, List.length_take]; rfl)) ?_; (with_reducible refine (edit_Replace.calls _ _ l0 a1_0 a1_1 a2 a3 _ _ l4 t210 t213 _ ?side1 ?side2 ?side3 ?side4 A8.out).mono ?_); (case side1 => repeat (first | exact (Kd.C_below HR0.out HB.out) | (with_reducible refine Kd.C_alloc ?_ _) | (with_reducible refine Kd.C_drewN ?_ _) | (with_reducible refine Kd.C_drew ?_))); (case side2 => exact HC0.out); (case side3 => repeat (first | exact (Kd.C_below HR4.out HB.out) | (with_reducible refine Kd.C_alloc ?_ _) | (with_reducible refine Kd.C_drewN ?_ _) | (with_reducible refine Kd.C_drew ?_))); (case side4 => exact HC4.out); rintro e w17 ⟨v211, rfl, ho0, hb⟩; refine ⟨_, rfl, ?_⟩; have n0_ := Aside0.mk (Kd.R_lower ho0 (below_size (by repeat (first | (with_reducible first | exact HB.out | apply below_alloc | apply pw_below_drewN | apply below_drew1 | refine below_set ?_ GE209.out) | exact HB.out)))); have n1_ := Aside0.mk (blk_below (g := gb209) (o := .cells #[.int .i64 a1_0, .int .i64 a1_1] 25 (0, 0)) (by (with_reducible repeat (first | refine blk_drewN ?_ _ | refine blk_drew ?_ | refine blk_alloc ?_ _)); exact BK209.out) hb); have n2_ := Aside0.mk (below_step (by repeat (first | (with_reducible first | exact HB.out | apply below_alloc | apply pw_below_drewN | apply below_drew1 | refine below_set ?_ GE209.out) | exact HB.out)) hb); clear BK209; clear HB; have HO212 := n0_; have BK209 := n1_; have HB := n2_; clear n0_ n1_ n2_; (try clear hb); (try clear hb2); (try clear hk); (try clear hi); (try clear ho0); obtain ⟨Ao18, co18, eo18⟩ := Kd.R_slice HO212.out; subst eo18) | ((with_reducible refine gate_callee (f := 20) rfl ?_); refine goesL_ (some 28) rfl rfl Tryz.func20 (by kernel_rfl) rfl #[.slice Ao18 t210.length co18, .slice A5 l5.length c5] rfl (by (try simp only [List.map_toArray, List.map_cons, List.map_nil]); first | done | rfl | (simp only [List.length_drop, List.length_take]; rfl)) ?_; (with_reducible refine (redpencilref14_Same.calls k _ _ t210 _ _ l5 false _ ?side1 ?side2 ?side3 ?side4 A9.out).mono ?_); (case side1 => repeat (first | exact (Kd.R_reads' HO212.out).2.2 | (with_reducible refine Kd.C_alloc ?_ _) | (with_reducible refine Kd.C_drewN ?_ _) | (with_reducible refine Kd.C_drew ?_))); (case side2 => exact (Kd.R_reads' HO212.out).2.1); (case side3 => repeat (first | exact (Kd.C_below HR5.out HB.out) | (with_reducible refine Kd.C_alloc ?_ _) | (with_reducible refine Kd.C_drewN ?_ _) | (with_reducible refine Kd.C_drew ?_))); (case side4 => exact HC5.out); rintro e w' ⟨rfl, ⟨nd, rfl⟩⟩; refine ⟨_, rfl, ?_⟩))
  go_ret
  exact ⟨by first | rfl | (simp [errW_none, errW_some] <;> rfl) | (simp [*, errW_none, errW_some] <;> rfl), by repeat (first | (with_reducible first | exact HB.out | apply below_alloc | apply pw_below_drewN | apply below_drew1 | refine below_set ?_ GE209.out) | exact HB.out)⟩
def redpencillaw15_dot.f (a0 : Int) (a1 : Int) : Option (Int × Int) := some (a0, a1)
set_option maxHeartbeats 8000000 in
set_option maxRecDepth 100000 in
theorem redpencillaw15_dot.calls (a0 : Int) (a1 : Int) (r1 : Int) (r2 : Int) (w : World) (h : redpencillaw15_dot.f a0 a1 = some (r1, r2)) :
  Calls Tryz.prog 32 #[.int .i64 a0, .int .i64 a1] w fun e w' => e = .returned (.agg #[.int .i64 r1, .int .i64 r2]) ∧ Below w.heap.size w w' := by
 have hu25 := Tryz.underlying25
 have HB := Aside0.mk (Below.refl w.heap.size w)
 have H : (some (a0, a1)) = some (r1, r2) := h
 clear h
 simp only [Option.some.injEq, Prod.mk.injEq] at H
 obtain ⟨rfl, rfl⟩ := H
 go_enter Tryz.func32, Tryz.ntmps32
 go_wp2_with (first | ((with_reducible refine gate_dst (N := 4) rfl ?_); refine box_event ?hg (N := 4) ?hd (cs := #[.int .i64 0, .int .i64 0]) (t := 25) ?hr ?_; (case hd => rfl); (case hg => rfl); (case hr => first | (go_simp; done) | (go_simp; rfl)); intro gb215 hg w3 hbox hb; have n0_ := Aside0.mk (below_step (by repeat (first | (with_reducible first | exact HB.out | apply below_alloc | apply pw_below_drewN | apply below_drew1) | exact HB.out)) hb); have n1_ := Aside0.mk (hbox); have n2_ := Aside0.mk ((by rw [hg]; exact (below_size (by repeat (first | (with_reducible first | exact HB.out | apply below_alloc | apply pw_below_drewN | apply below_drew1) | exact HB.out))) : w.heap.size ≤ gb215)); have n3_ := Aside0.mk ((by rw [hg]; exact (below_size (by repeat (first | (with_reducible first | exact HB.out | apply below_alloc | apply pw_below_drewN | apply below_drew1) | exact HB.out))) : w.heap.size ≤ gb215)); clear HB; have HB := n0_; have BK215 := n1_; have GW215 := n2_; have GE215 := n3_; clear n0_ n1_ n2_ n3_; clear hb hbox hg; have hcz4_0 : w3.cell? ⟨gb215, 0, none⟩ = some (.int .i64 0) := (blk_cell BK215.out 0).trans rfl; have hcz4_1 : w3.cell? ⟨gb215, 1, none⟩ = some (.int .i64 0) := (blk_cell BK215.out 1).trans rfl; have hfz4_0 := blk_frozen BK215.out 0; have hfz4_1 := blk_frozen BK215.out 1))
 refine bodyPost_ret (results_cell_row rfl _ _ gb215 25 #[.int .i64 a0, .int .i64 a1] (0, 0) _ rfl (by (with_reducible repeat (first | refine blk_drewN ?_ _ | refine blk_drew ?_ | refine blk_alloc ?_ _)); refine blk_put (cs := #[.int .i64 a0, .int .i64 0]) ?_ 1 _ rfl; (with_reducible repeat (first | refine blk_drewN ?_ _ | refine blk_drew ?_ | refine blk_alloc ?_ _)); refine blk_put (cs := #[.int .i64 0, .int .i64 0]) ?_ 0 _ rfl; (with_reducible repeat (first | refine blk_drewN ?_ _ | refine blk_drew ?_ | refine blk_alloc ?_ _)); exact BK215.out) Tryz.underlying25 rfl (by kernel_rfl)) rfl ?_
 exact ⟨by first | rfl | (simp [errW_none, errW_some] <;> rfl) | (simp [*, errW_none, errW_some] <;> rfl), by repeat (first | (with_reducible first | exact HB.out | apply below_alloc | apply pw_below_drewN | apply below_drew1 | refine below_set ?_ GE215.out) | exact HB.out)⟩
end Go.Proofs.YtmbndijbpgobeaaGreat.PWalk
end
section
namespace Go.Proofs.YtmbndijbpgobeaaGreat.PWalk
open Go.RowKit Go.Proofs.YtmbndijbpgobeaaGreatW.PrintWords Go.Proofs.YtmbndijbpgobeaaGreatW.PrintLast Go.Proofs.YtmbndijbpgobeaaGreatW.PrintMore
attribute [local go_sem] max2_int max_two
set_option linter.unusedVariables false
set_option linter.unusedSimpArgs false
def edit_Apply.f (k : Nat) (l0 : List (S53)) (l1 : List (S53)) : Option ((List (S53)) × List Int × Int) := (join_Join.f l0 l1).bind fun bt225 => (if bt225.2 = 0 then ((index_Runes.f k bt225.1).bind fun bt229 => (if bt229.2 = 0 then (some (bt225.1, bt229.1, 0)) else (some (([] : List (S53)), ([] : List Int), bt229.2)))) else (some (([] : List (S53)), ([] : List Int), bt225.2)))
set_option maxHeartbeats 8000000 in
set_option maxRecDepth 100000 in
theorem edit_Apply.calls (k : Nat) (A0 : Option Addr) (c0 : Nat) (l0 : List (S53)) (A1 : Option Addr) (c1 : Nat) (l1 : List (S53)) (r1 : List (S53)) (r2 : List Int) (r3 : Int) (w : World) (hr0 : Kd.C k53 w A0 l0.length l0) (hc0 : l0.length ≤ c0) (hr1 : Kd.C k53 w A1 l1.length l1) (hc1 : l1.length ≤ c1) (h : edit_Apply.f k l0 l1 = some (r1, r2, r3)) :
  Calls Tryz.prog 25 #[.slice A0 l0.length c0, .slice A1 l1.length c1] w fun e w' => ∃ v0_ v1_ : Value, e = .returned (.tuple #[v0_, v1_, .int .i64 r3]) ∧ Kd.R k53 53 w' w.heap.size (fun _ => True) v0_ r1 ∧ Kd.R (Kd.int .i32) 21 w' w.heap.size (fun _ => True) v1_ r2 ∧ Below w.heap.size w w' := by
 have HR0 := Aside0.mk hr0
 have HC0 := Aside0.mk hc0
 clear hr0 hc0
 have HR1 := Aside0.mk hr1
 have HC1 := Aside0.mk hc1
 clear hr1 hc1
 have HB := Aside0.mk (Below.refl w.heap.size w)
 have H : ((join_Join.f l0 l1).bind fun bt225 => (if bt225.2 = 0 then ((index_Runes.f k bt225.1).bind fun bt229 => (if bt229.2 = 0 then (some (bt225.1, bt229.1, 0)) else (some (([] : List (S53)), ([] : List Int), bt229.2)))) else (some (([] : List (S53)), ([] : List Int), bt225.2)))) = some (r1, r2, r3) := h
 clear h
 replace H := Option.bind_eq_some_iff.mp H
 obtain ⟨⟨t225, t226⟩, A30, H⟩ := H
 replace H : (if t226 = 0 then ((index_Runes.f k t225).bind fun bt229 => (if bt229.2 = 0 then (some (t225, bt229.1, 0)) else (some (([] : List (S53)), ([] : List Int), bt229.2)))) else (some (([] : List (S53)), ([] : List Int), t226))) = some (r1, r2, r3) := H
 have A3 := Aside0.mk A30
 clear A30
 by_cases c4 : t226 = 0
 ·
  rw [if_pos c4] at H
  have c4b0 : (t226 == 0) = true := beq_iff_eq.mpr c4
  have c4b1 : (t226 != 0) = false := bne_eq_false_iff_eq.mpr c4
  clear c4
  replace H := Option.bind_eq_some_iff.mp H
  obtain ⟨⟨t229, t230⟩, A50, H⟩ := H
  replace H : (if t230 = 0 then (some (t225, t229, 0)) else (some (([] : List (S53)), ([] : List Int), t230))) = some (r1, r2, r3) := H
  have A5 := Aside0.mk A50
  clear A50
  by_cases c6 : t230 = 0
  ·
   rw [if_pos c6] at H
   have c6b0 : (t230 == 0) = true := beq_iff_eq.mpr c6
   have c6b1 : (t230 != 0) = false := bne_eq_false_iff_eq.mpr c6
   clear c6
   simp only [Option.some.injEq, Prod.mk.injEq] at H
   obtain ⟨rfl, rfl, rfl⟩ := H
   go_enter Tryz.func25, Tryz.ntmps25
   go_wp2_with (first | ((with_reducible refine gate_callee (f := 54) rfl ?_); refine goesL_ (some 13) rfl rfl Tryz.func54 (by kernel_rfl) rfl #[.slice A0 l0.length c0, .slice A1 l1.length c1] rfl (by (try simp only [List.map_toArray, List.map_cons, List.map_nil]); first | done | rfl | (simp only [List.length_drop, List.length_take]; rfl)) ?_; (with_reducible refine (join_Join.calls _ _ l0 _ _ l1 t225 t226 _ ?side1 ?side2 ?side3 ?side4 A3.out).mono ?_); (case side1 => repeat (first | exact HR0.out | (with_reducible refine Kd.C_alloc ?_ _) | (with_reducible refine Kd.C_drewN ?_ _) | (with_reducible refine Kd.C_drew ?_))); (case side2 => exact HC0.out); (case side3 => repeat (first | exact HR1.out | (with_reducible refine Kd.C_alloc ?_ _) | (with_reducible refine Kd.C_drewN ?_ _) | (with_reducible refine Kd.C_drew ?_))); (case side4 => exact HC1.out); rintro e w7 ⟨v227, rfl, ho0, hb⟩; refine ⟨_, rfl, ?_⟩; have n0_ := Aside0.mk (Kd.R_lower ho0 (below_size (by repeat (first | (with_reducible first | exact HB.out | apply below_alloc | apply pw_below_drewN | apply below_drew1) | exact HB.out)))); have n1_ := Aside0.mk (below_step (by repeat (first | (with_reducible first | exact HB.out | apply below_alloc | apply pw_below_drewN | apply below_drew1) | exact HB.out)) hb); clear HB; have HO228 := n0_; have HB := n1_; clear n0_ n1_; (try clear hb); (try clear hb2); (try clear hk); (try clear hi); (try clear ho0); obtain ⟨Ao8, co8, eo8⟩ := Kd.R_slice HO228.out; subst eo8) | ((with_reducible refine gate_callee (f := 56) rfl ?_); refine goesL_ (some 21) rfl rfl Tryz.func56 (by kernel_rfl) rfl #[.slice Ao8 t225.length co8] rfl (by (try simp only [List.map_toArray, List.map_cons, List.map_nil]); first | done | rfl | (simp only [List.length_drop, List.length_take]; rfl)) ?_; (with_reducible refine (index_Runes.calls k _ _ t225 t229 t230 _ ?side1 ?side2 A5.out).mono ?_); (case side1 => repeat (first | exact (Kd.R_reads' HO228.out).2.2 | (with_reducible refine Kd.C_alloc ?_ _) | (with_reducible refine Kd.C_drewN ?_ _) | (with_reducible refine Kd.C_drew ?_))); (case side2 => exact (Kd.R_reads' HO228.out).2.1); rintro e w9 ⟨v231, rfl, ho0, hb⟩; refine ⟨_, rfl, ?_⟩; have n0_ := Aside0.mk (Kd.R_below (by (with_reducible repeat (first | apply Kd.R_alloc | apply Kd.R_drewN | apply Kd.R_drew)); exact HO228.out) hb); have n1_ := Aside0.mk (Kd.R_lower ho0 (below_size (by repeat (first | (with_reducible first | exact HB.out | apply below_alloc | apply pw_below_drewN | apply below_drew1) | exact HB.out)))); have n2_ := Aside0.mk (below_step (by repeat (first | (with_reducible first | exact HB.out | apply below_alloc | apply pw_below_drewN | apply below_drew1) | exact HB.out)) hb); clear HO228; clear HB; have HO228 := n0_; have HO232 := n1_; have HB := n2_; clear n0_ n1_ n2_; (try clear hb); (try clear hb2); (try clear hk); (try clear hi); (try clear ho0)))
   go_ret3
   exact ⟨_, _, by first | rfl | (simp [errW_none, errW_some] <;> rfl) | (simp [*, errW_none, errW_some] <;> rfl), by (with_reducible repeat (first | apply Kd.R_alloc | apply Kd.R_drewN | apply Kd.R_drew)); exact HO228.out, by (with_reducible repeat (first | apply Kd.R_alloc | apply Kd.R_drewN | apply Kd.R_drew)); exact HO232.out, by repeat (first | (with_reducible first | exact HB.out | apply below_alloc | apply pw_below_drewN | apply below_drew1) | exact HB.out)⟩
  ·
   rw [if_neg c6] at H
   have c6b0 : (t230 == 0) = false := beq_eq_false_iff_ne.mpr c6
   have c6b1 : (t230 != 0) = true := bne_iff_ne.mpr c6
   simp only [Option.some.injEq, Prod.mk.injEq] at H
   obtain ⟨rfl, rfl, rfl⟩ := H
   go_enter Tryz.func25, Tryz.ntmps25
   go_wp2_with (first | ((with_reducible refine gate_callee (f := 54) rfl ?_); refine goesL_ (some 13) rfl rfl Tryz.func54 (by kernel_rfl) rfl #[.slice A0 l0.length c0, .slice A1 l1.length c1] rfl (by (try simp only [List.map_toArray, List.map_cons, List.map_nil]); first | done | rfl | (simp only [List.length_drop, List.length_take]; rfl)) ?_; (with_reducible refine (join_Join.calls _ _ l0 _ _ l1 t225 t226 _ ?side1 ?side2 ?side3 ?side4 A3.out).mono ?_); (case side1 => repeat (first | exact HR0.out | (with_reducible refine Kd.C_alloc ?_ _) | (with_reducible refine Kd.C_drewN ?_ _) | (with_reducible refine Kd.C_drew ?_))); (case side2 => exact HC0.out); (case side3 => repeat (first | exact HR1.out | (with_reducible refine Kd.C_alloc ?_ _) | (with_reducible refine Kd.C_drewN ?_ _) | (with_reducible refine Kd.C_drew ?_))); (case side4 => exact HC1.out); rintro e w10 ⟨v227, rfl, ho0, hb⟩; refine ⟨_, rfl, ?_⟩; have n0_ := Aside0.mk (Kd.R_lower ho0 (below_size (by repeat (first | (with_reducible first | exact HB.out | apply below_alloc | apply pw_below_drewN | apply below_drew1) | exact HB.out)))); have n1_ := Aside0.mk (below_step (by repeat (first | (with_reducible first | exact HB.out | apply below_alloc | apply pw_below_drewN | apply below_drew1) | exact HB.out)) hb); clear HB; have HO228 := n0_; have HB := n1_; clear n0_ n1_; (try clear hb); (try clear hb2); (try clear hk); (try clear hi); (try clear ho0); obtain ⟨Ao11, co11, eo11⟩ := Kd.R_slice HO228.out; subst eo11) | ((with_reducible refine gate_callee (f := 56) rfl ?_); refine goesL_ (some 21) rfl rfl Tryz.func56 (by kernel_rfl) rfl #[.slice Ao11 t225.length co11] rfl (by (try simp only [List.map_toArray, List.map_cons, List.map_nil]); first | done | rfl | (simp only [List.length_drop, List.length_take]; rfl)) ?_; (with_reducible refine (index_Runes.calls k _ _ t225 t229 t230 _ ?side1 ?side2 A5.out).mono ?_); (case side1 => repeat (first | exact (Kd.R_reads' HO228.out).2.2 | (with_reducible refine Kd.C_alloc ?_ _) | (with_reducible refine Kd.C_drewN ?_ _) | (with_reducible refine Kd.C_drew ?_))); (case side2 => exact (Kd.R_reads' HO228.out).2.1); rintro e w12 ⟨v231, rfl, ho0, hb⟩; refine ⟨_, rfl, ?_⟩; have n0_ := Aside0.mk (Kd.R_below (by (with_reducible repeat (first | apply Kd.R_alloc | apply Kd.R_drewN | apply Kd.R_drew)); exact HO228.out) hb); have n1_ := Aside0.mk (Kd.R_lower ho0 (below_size (by repeat (first | (with_reducible first | exact HB.out | apply below_alloc | apply pw_below_drewN | apply below_drew1) | exact HB.out)))); have n2_ := Aside0.mk (below_step (by repeat (first | (with_reducible first | exact HB.out | apply below_alloc | apply pw_below_drewN | apply below_drew1) | exact HB.out)) hb); clear HO228; clear HB; have HO228 := n0_; have HO232 := n1_; have HB := n2_; clear n0_ n1_ n2_; (try clear hb); (try clear hb2); (try clear hk); (try clear hi); (try clear ho0)))
   go_ret3
   exact ⟨_, _, by first | rfl | (simp [errW_none, errW_some] <;> rfl) | (simp [*, errW_none, errW_some] <;> rfl), by first | exact Kd.R_nil _ _ _ _ _ | exact Kd.N_nil _ _ _ _ _ | exact Kd.V_nil _ _ _ _ _ | exact Kd.Q_nil _ _ _ _ _ | exact Kd.S_nil _ _ _ _ _, by first | exact Kd.R_nil _ _ _ _ _ | exact Kd.N_nil _ _ _ _ _ | exact Kd.V_nil _ _ _ _ _ | exact Kd.Q_nil _ _ _ _ _ | exact Kd.S_nil _ _ _ _ _, by repeat (first | (with_reducible first | exact HB.out | apply below_alloc | apply pw_below_drewN | apply below_drew1) | exact HB.out)⟩
 ·
  rw [if_neg c4] at H
  have c4b0 : (t226 == 0) = false := beq_eq_false_iff_ne.mpr c4
  have c4b1 : (t226 != 0) = true := bne_iff_ne.mpr c4
  simp only [Option.some.injEq, Prod.mk.injEq] at H
  obtain ⟨rfl, rfl, rfl⟩ := H
  go_enter Tryz.func25, Tryz.ntmps25
  go_wp2_with (first | ((with_reducible refine gate_callee (f := 54) rfl ?_); refine goesL_ (some 13) rfl rfl Tryz.func54 (by kernel_rfl) rfl #[.slice A0 l0.length c0, .slice A1 l1.length c1] rfl (by (try simp only [List.map_toArray, List.map_cons, List.map_nil]); first | done | rfl | (simp only [List.length_drop, List.length_take]; rfl)) ?_; (with_reducible refine (join_Join.calls _ _ l0 _ _ l1 t225 t226 _ ?side1 ?side2 ?side3 ?side4 A3.out).mono ?_); (case side1 => repeat (first | exact HR0.out | (with_reducible refine Kd.C_alloc ?_ _) | (with_reducible refine Kd.C_drewN ?_ _) | (with_reducible refine Kd.C_drew ?_))); (case side2 => exact HC0.out); (case side3 => repeat (first | exact HR1.out | (with_reducible refine Kd.C_alloc ?_ _) | (with_reducible refine Kd.C_drewN ?_ _) | (with_reducible refine Kd.C_drew ?_))); (case side4 => exact HC1.out); rintro e w13 ⟨v227, rfl, ho0, hb⟩; refine ⟨_, rfl, ?_⟩; have n0_ := Aside0.mk (Kd.R_lower ho0 (below_size (by repeat (first | (with_reducible first | exact HB.out | apply below_alloc | apply pw_below_drewN | apply below_drew1) | exact HB.out)))); have n1_ := Aside0.mk (below_step (by repeat (first | (with_reducible first | exact HB.out | apply below_alloc | apply pw_below_drewN | apply below_drew1) | exact HB.out)) hb); clear HB; have HO228 := n0_; have HB := n1_; clear n0_ n1_; (try clear hb); (try clear hb2); (try clear hk); (try clear hi); (try clear ho0)))
  go_ret3
  exact ⟨_, _, by first | rfl | (simp [errW_none, errW_some] <;> rfl) | (simp [*, errW_none, errW_some] <;> rfl), by first | exact Kd.R_nil _ _ _ _ _ | exact Kd.N_nil _ _ _ _ _ | exact Kd.V_nil _ _ _ _ _ | exact Kd.Q_nil _ _ _ _ _ | exact Kd.S_nil _ _ _ _ _, by first | exact Kd.R_nil _ _ _ _ _ | exact Kd.N_nil _ _ _ _ _ | exact Kd.V_nil _ _ _ _ _ | exact Kd.Q_nil _ _ _ _ _ | exact Kd.S_nil _ _ _ _ _, by repeat (first | (with_reducible first | exact HB.out | apply below_alloc | apply pw_below_drewN | apply below_drew1) | exact HB.out)⟩
end Go.Proofs.YtmbndijbpgobeaaGreat.PWalk
end
section
namespace Go.Proofs.YtmbndijbpgobeaaGreat.PWalk
open Go.RowKit Go.Proofs.YtmbndijbpgobeaaGreatW.PrintWords Go.Proofs.YtmbndijbpgobeaaGreatW.PrintLast Go.Proofs.YtmbndijbpgobeaaGreatW.PrintMore
set_option linter.unusedVariables false
set_option linter.unusedSimpArgs false
open Go.Shelf
attribute [local go_sem] Oper.semAt_some
def xA : Node := ⟨⟨1, 1⟩, ⟨0, 0⟩, 1, 97⟩
def xB : Node := ⟨⟨1, 2⟩, ⟨1, 1⟩, 2, 0⟩
def xC : Node := ⟨⟨1, 3⟩, ⟨1, 2⟩, 3, 99⟩
def xG : Node := ⟨⟨1, 1⟩, ⟨0, 0⟩, 1, 0⟩
def xL : Node := ⟨⟨1, 3⟩, ⟨1, 2⟩, 3, 0⟩
def xX : Node := ⟨⟨2, 1⟩, ⟨1, 1⟩, 4, 120⟩
def xY : Node := ⟨⟨2, 2⟩, ⟨2, 1⟩, 5, 121⟩
def xZ : Node := ⟨⟨2, 1⟩, ⟨0, 0⟩, 4, 122⟩
theorem kn15_0 : redpencillaw15_inserts.f 60 [xA, xB, xC] 2 1 1 [120, 121] [xX, xY] 0 = some true := by kernel_rfl
theorem kn15_1 : edit_Apply.f 60 [xA, xB, xC] [xX, xY] = some ([xA, xX, xB, xY, xC], [97, 120, 121, 99], 0) := by kernel_rfl
theorem kn15_2 : redpencillaw15_deletes.f 60 [xA, xB, xC] 1 1 [xL] 0 = some true := by kernel_rfl
theorem kn15_3 : redpencillaw15_replaces.f 60 [xA, xB, xC] 2 1 0 2 [122] [xG, xZ, xL] 0 = some true := by kernel_rfl
theorem kn15_4 : edit_Apply.f 60 [xA, xB, xC] [xG, xZ, xL] = some ([xG, xZ, xB, xL], [122], 0) := by kernel_rfl
theorem kn15_5 : redpencillaw15_inserts.f 60 [xA, xB, xC] 2 1 3 [120] [] 3 = some true := by kernel_rfl
theorem kn15_6 : redpencillaw15_inserts.f 60 [xA, xB, xC] 1 1 0 [120] [] 11 = some true := by kernel_rfl
theorem kn15_7 : redpencillaw15_inserts.f 60 [xA, xB, xC] 2 4294967295 0 [120, 121] [] 14 = some true := by kernel_rfl
theorem kn15_8 : redpencillaw15_inserts.f 60 [xA, xB, xC] 2 1 0 [0] [] 13 = some true := by kernel_rfl
theorem kn15_9 : redpencillaw15_deletes.f 60 [xA, xB, xC] 0 3 [] 3 = some true := by kernel_rfl
theorem kn15_10 : edit_Latest.f 60 [xA, xB, xC] = some 3 := by kernel_rfl
end Go.Proofs.YtmbndijbpgobeaaGreat.PWalk
end
section
namespace Go.Proofs.YtmbndijbpgobeaaGreat.PWalk
open Go.RowKit Go.Proofs.YtmbndijbpgobeaaGreatW.PrintWords Go.Proofs.YtmbndijbpgobeaaGreatW.PrintLast Go.Proofs.YtmbndijbpgobeaaGreatW.PrintMore
set_option linter.unusedVariables false
set_option linter.unusedSimpArgs false
open Go.Shelf
attribute [local go_sem] Oper.semAt_some
theorem run_runes {W : World} {A0 : Option Addr} {c0 : Nat} {l0 : List Int} (hC : Kd.C (Kd.int .i32) W A0 l0.length l0) : (convert 26 9 (.slice A0 l0.length c0)).run Tryz.prog W = .ok (.string (runesBytes l0)) W := by
 by_cases h0 : 0 < l0.length
 ·
  obtain ⟨x, hx⟩ : ∃ x, l0[0]? = some x := ⟨_, List.getElem?_eq_getElem h0⟩
  obtain ⟨ad, rfl, _⟩ := rune_at hC (Below.refl _ W) 0 x hx
  have := run_convert_runes (P := Tryz.prog) W 26 9 21 ad l0.length c0 l0 (Nat.le_refl _) Tryz.underlying26 Tryz.underlying21 Tryz.underlying9 (fun j hj => by
   obtain ⟨ad2, e2, hc⟩ := rune_at hC (Below.refl _ W) j l0[j] (List.getElem?_eq_getElem hj)
   cases e2
   rw [hc]; simp [List.getD, hj])
  rw [List.take_length] at this
  exact this
 ·
  obtain rfl : l0 = [] := List.eq_nil_of_length_eq_zero (by omega)
  cases A0 with
  | none => exact run_convert_runes_nil (P := Tryz.prog) W 26 9 21 _ _ Tryz.underlying26 Tryz.underlying21 Tryz.underlying9
  | some ad => exact run_convert_runes (P := Tryz.prog) W 26 9 21 ad 0 c0 [] (Nat.le_refl _) Tryz.underlying26 Tryz.underlying21 Tryz.underlying9 (fun j hj => absurd hj (Nat.not_lt_zero _))
theorem texts_call (k : Nat) (A0 : Option Addr) (c0 : Nat) (l0 : List Node) (A1 : Option Addr) (c1 : Nat) (l1 : List Node) (want : ByteArray) (x : List Node) (rs : List Int) (w : World) (hr0 : Kd.C k53 w A0 l0.length l0) (hc0 : l0.length ≤ c0) (hr1 : Kd.C k53 w A1 l1.length l1) (hc1 : l1.length ≤ c1) (h : edit_Apply.f k l0 l1 = some (x, rs, 0)) (hw : runesBytes rs = want) :
  Calls Tryz.prog 36 #[.slice A0 l0.length c0, .slice A1 l1.length c1, .string want] w fun e w' => e = .returned (.bool true) ∧ Below w.heap.size w w' := by
 have HA := Aside0.mk (edit_Apply.calls k A0 c0 l0 A1 c1 l1 x rs 0 w hr0 hc0 hr1 hc1 h)
 have HW := Aside0.mk hw
 clear hr0 hc0 hr1 hc1 h hw
 go_enter Tryz.func36, Tryz.ntmps36
 go_wp2_with fail
 refine HA.out.mono ?_
 rintro e V ⟨v0, v1, rfl, hr0, hr1, hb⟩
 obtain ⟨A2, c2, rfl⟩ := Kd.R_slice hr1
 have hcv := run_runes (c0 := c2) (Kd.R_reads' hr1).2.2
 rw [HW.out] at hcv
 have HB := Aside0.mk hb
 clear hr0 hr1 hb HA
 go_wp2_with fail
 go_ret
 exact ⟨rfl, HB.out⟩
theorem grown_cell {V W : World} {g : Nat} (h : V.grownBy W (some g)) (j : Nat) (u : Value) : V.grownBy (W.setCell ⟨g, j, none⟩ u) (some g) :=
 ⟨h.os, h.tape, h.output, by rw [World.size_setCell]; exact h.size, fun k hk hne => (Below.heap_setCell W _ u k (fun e => hne (by rw [e]))).trans (h.block k hk hne)⟩
theorem nilNs {W : World} : Kd.C k53 W none 0 ([] : List Node) := ⟨rfl, by decide, fun h => absurd h (by decide)⟩
/-- What lies ready for the calls of known. -/
structure K15 (w : World) (gS gX gZ g6 : Nat) (V : World) : Prop where
 below : Below w.heap.size w V
 s : Kd.C k53 V (some ⟨gS, 0, none⟩) 3 [xA, xB, xC]
 x : Kd.C k53 V (some ⟨gX, 0, none⟩) 2 [xX, xY]
 z : Kd.C k53 V (some ⟨gZ, 0, none⟩) 3 [xG, xZ, xL]
 also : V.heap[g6]? = some (boxN xL)
theorem K15.more {w : World} {gS gX gZ g6 : Nat} {V V' : World} (h : K15 w gS gX gZ g6 V) (hb : Below V.heap.size V V') : K15 w gS gX gZ g6 V' := ⟨below_more h.below hb, Kd.C_below h.s hb, Kd.C_below h.x hb, Kd.C_below h.z hb, blk_keep h.also hb⟩
/-- Two copies come up. -/
structure K5 (W0 : World) (l2 l3 l4 l5 : Bool) (g5 g6 : Nat) (V : World) : Prop where
 ord4 : l4 = true → l2 = true
 ord5 : l5 = true → l3 = true
 below : Below W0.heap.size W0 V
 z5 : l2 = true → l4 = false → V.heap[g5]? = some boxZ
 x5 : l4 = true → V.heap[g5]? = some (boxN xA)
 z6 : l3 = true → l5 = false → V.heap[g6]? = some boxZ
 x6 : l5 = true → V.heap[g6]? = some (boxN xC)
 ge5 : l2 = true → W0.heap.size ≤ g5
 ge6 : l3 = true → W0.heap.size ≤ g6
 ne : l2 = true → l3 = true → g5 ≠ g6
structure K8 (W0 : World) (l4 l5 : Bool) (gZ : Nat) (V : World) : Prop where
 below : Below W0.heap.size W0 V
 z : l4 = true → RN V W0.heap.size (.slice (some ⟨gZ, 0, none⟩) 3 3) [xG, xZ, xL]
 ord : l5 = true → l4 = true
def kf5Inv (W0 : World) (gA gC : Nat) (z0 z2 z4 z5 z6 z7 z8 z9 z10 z11 z12 z13 z14 z15 z16 z17 z18 z19 z20 z21 z22 z23 z24 z25 z26 z27 z28 z29 z30 z31 z32 z33 z34 z35 z36 z37 z38 z39 z40 z41 z42 z43 z44 z45 z46 z47 z48 z49 z50 z51 z52 z53 z54 z55 z56 z57 z58 z59 z60 z61 z62 z63 z64 z65 z66 z67 z68 z69 z70 z71 z72 z73 z74 z75 z76 z77 z78 z79 z80 z81 z82 z83 z84 z85 z86 z87 z88 z89 z90 z91 z92 z93 z94 z95 z96 z97 z98 z99 z100 z101 z102 : Value) (L : Array Bool) (ac : Act) (V : World) : Prop := ∃ (l0 l1 l2 l3 l4 l5 : Bool) (g5 : Nat) (g6 : Nat), L = #[l0, l1, l2, l3, l4, l5] ∧ ac = { tmps := #[z0, .pointer (some ⟨gA, 0, none⟩), z2, .pointer (some ⟨gC, 0, none⟩), z4, selv l2 (.pointer (some ⟨g5, 0, none⟩)) (z5), selv l3 (.pointer (some ⟨g6, 0, none⟩)) (z6), z7, z8, z9, z10, z11, z12, z13, z14, z15, z16, z17, z18, z19, z20, z21, selv l0 (vNode xA) (z22), selv l1 (vNode xC) (z23), z24, z25, z26, z27, z28, z29, z30, z31, z32, z33, z34, z35, z36, z37, z38, z39, z40, z41, z42, z43, z44, z45, z46, z47, z48, z49, z50, z51, z52, z53, z54, z55, z56, z57, z58, z59, z60, z61, z62, z63, z64, z65, z66, z67, z68, z69, z70, z71, z72, z73, z74, z75, z76, z77, z78, z79, z80, z81, z82, z83, z84, z85, z86, z87, z88, z89, z90, z91, z92, z93, z94, z95, z96, z97, z98, z99, z100, z101, z102], defers := [] } ∧ Aside0 (K5 W0 l2 l3 l4 l5 g5 g6 V)
def kf8Inv (W0 : World) (g5 g6 : Nat) (z0 z1 z2 z3 z4 z7 z8 z9 z10 z11 z12 z13 z14 z15 z16 z17 z18 z19 z20 z21 z22 z23 z24 z25 z26 z27 z28 z29 z30 z31 z32 z33 z34 z35 z36 z37 z38 z39 z40 z41 z42 z43 z44 z45 z46 z47 z48 z49 z50 z51 z52 z53 z54 z55 z56 z57 z58 z59 z60 z61 z62 z63 z64 z65 z66 z67 z68 z69 z70 z71 z72 z73 z74 z75 z76 z77 z78 z79 z80 z81 z82 z83 z84 z85 z86 z87 z88 z89 z90 z91 z92 z93 z94 z95 z96 z97 z98 z99 z100 z101 z102 : Value) (L : Array Bool) (ac : Act) (V : World) : Prop := ∃ (l0 l1 l2 l3 l4 l5 : Bool) (gZ : Nat), L = #[l0, l1, l2, l3, l4, l5] ∧ ac = { tmps := #[z0, z1, z2, z3, z4, .pointer (some ⟨g5, 0, none⟩), .pointer (some ⟨g6, 0, none⟩), z7, selv l5 (.slice (some ⟨gZ, 0, none⟩) 3 3) (z8), z9, z10, z11, z12, z13, z14, z15, z16, z17, z18, z19, z20, z21, z22, z23, z24, z25, z26, z27, z28, z29, z30, z31, z32, selv l0 (vNode xG) (z33), selv l1 (vDot ⟨2, 1⟩) (z34), selv l2 (vNode xZ) (z35), selv l3 (vNode xL) (z36), selv l4 (.slice (some ⟨gZ, 0, none⟩) 3 3) (z37), z38, z39, z40, z41, z42, z43, z44, z45, z46, z47, z48, z49, z50, z51, z52, z53, z54, z55, z56, z57, z58, z59, z60, z61, z62, z63, z64, z65, z66, z67, z68, z69, z70, z71, z72, z73, z74, z75, z76, z77, z78, z79, z80, z81, z82, z83, z84, z85, z86, z87, z88, z89, z90, z91, z92, z93, z94, z95, z96, z97, z98, z99, z100, z101, z102], defers := [] } ∧ Aside0 (K8 W0 l4 l5 gZ V)
set_option maxHeartbeats 4000000 in
set_option maxRecDepth 100000 in
theorem known15_call (w : World) : Calls Tryz.prog 10 #[] w fun e w' => e = .returned (.bool true) ∧ Below w.heap.size w w' := by
 have hu := Tryz.underlying53
 have hu2 := Tryz.underlying25
 go_enter Tryz.func10, Tryz.ntmps10
 have HB : Aside0 (Below w.heap.size w w) := ⟨Below.refl _ _⟩
 go_wp2_with fail
 refine (redpencillaw15_dot.calls 1 1 1 1 _ rfl).mono ?_
 rintro e V1 ⟨rfl, hb⟩
 have HB := Aside0.mk (below_more HB.out hb)
 clear hb
 have hb0 := below_alloc (Below.refl V1.heap.size V1) (boxN xA)
 have H1 := Aside0.mk (blk_new V1 (boxN xA))
 have HB := Aside0.mk (below_more HB.out hb0)
 clear hb0
 go_wp2_with fail
 refine (redpencillaw15_dot.calls 1 2 1 2 (V1.alloc (boxN xA)) rfl).mono ?_
 rintro e V2 ⟨rfl, hb⟩
 have H1 := Aside0.mk (blk_keep H1.out hb)
 have HB := Aside0.mk (below_more HB.out hb)
 clear hb
 go_wp2_with fail
 refine (redpencillaw15_dot.calls 1 1 1 1 V2 rfl).mono ?_
 rintro e V3 ⟨rfl, hb⟩
 have H1 := Aside0.mk (blk_keep H1.out hb)
 have HB := Aside0.mk (below_more HB.out hb)
 clear hb
 have hb0 := below_alloc (Below.refl V3.heap.size V3) (boxN xB)
 have H2 := Aside0.mk (blk_new V3 (boxN xB))
 have H1 := Aside0.mk (blk_keep H1.out hb0)
 have HB := Aside0.mk (below_more HB.out hb0)
 clear hb0
 go_wp2_with fail
 refine (redpencillaw15_dot.calls 1 3 1 3 (V3.alloc (boxN xB)) rfl).mono ?_
 rintro e V4 ⟨rfl, hb⟩
 have H1 := Aside0.mk (blk_keep H1.out hb)
 have H2 := Aside0.mk (blk_keep H2.out hb)
 have HB := Aside0.mk (below_more HB.out hb)
 clear hb
 go_wp2_with fail
 refine (redpencillaw15_dot.calls 1 2 1 2 V4 rfl).mono ?_
 rintro e V5 ⟨rfl, hb⟩
 have H1 := Aside0.mk (blk_keep H1.out hb)
 have H2 := Aside0.mk (blk_keep H2.out hb)
 have HB := Aside0.mk (below_more HB.out hb)
 clear hb
 have hb0 := below_alloc (Below.refl V5.heap.size V5) (boxN xC)
 have H3 := Aside0.mk (blk_new V5 (boxN xC))
 have H1 := Aside0.mk (blk_keep H1.out hb0)
 have H2 := Aside0.mk (blk_keep H2.out hb0)
 have HB := Aside0.mk (below_more HB.out hb0)
 clear hb0
 have a0 : (V5.alloc (.cells #[.int .i64 1, .int .i64 3, .int .i64 1, .int .i64 2, .int .i64 3, .int .i32 99] 53 (0, 0) : Obj)).cell? ⟨V1.heap.size, 0, none⟩ = some (.int .i64 1) := (blk_cell H1.out 0).trans rfl
 have a1 : (V5.alloc (.cells #[.int .i64 1, .int .i64 3, .int .i64 1, .int .i64 2, .int .i64 3, .int .i32 99] 53 (0, 0) : Obj)).cell? ⟨V1.heap.size, 1, none⟩ = some (.int .i64 1) := (blk_cell H1.out 1).trans rfl
 have a2 : (V5.alloc (.cells #[.int .i64 1, .int .i64 3, .int .i64 1, .int .i64 2, .int .i64 3, .int .i32 99] 53 (0, 0) : Obj)).cell? ⟨V1.heap.size, 2, none⟩ = some (.int .i64 0) := (blk_cell H1.out 2).trans rfl
 have a3 : (V5.alloc (.cells #[.int .i64 1, .int .i64 3, .int .i64 1, .int .i64 2, .int .i64 3, .int .i32 99] 53 (0, 0) : Obj)).cell? ⟨V1.heap.size, 3, none⟩ = some (.int .i64 0) := (blk_cell H1.out 3).trans rfl
 have a4 : (V5.alloc (.cells #[.int .i64 1, .int .i64 3, .int .i64 1, .int .i64 2, .int .i64 3, .int .i32 99] 53 (0, 0) : Obj)).cell? ⟨V1.heap.size, 4, none⟩ = some (.int .i64 1) := (blk_cell H1.out 4).trans rfl
 have a5 : (V5.alloc (.cells #[.int .i64 1, .int .i64 3, .int .i64 1, .int .i64 2, .int .i64 3, .int .i32 99] 53 (0, 0) : Obj)).cell? ⟨V1.heap.size, 5, none⟩ = some (.int .i32 97) := (blk_cell H1.out 5).trans rfl
 have b0 : (V5.alloc (.cells #[.int .i64 1, .int .i64 3, .int .i64 1, .int .i64 2, .int .i64 3, .int .i32 99] 53 (0, 0) : Obj)).cell? ⟨V3.heap.size, 0, none⟩ = some (.int .i64 1) := (blk_cell H2.out 0).trans rfl
 have b1 : (V5.alloc (.cells #[.int .i64 1, .int .i64 3, .int .i64 1, .int .i64 2, .int .i64 3, .int .i32 99] 53 (0, 0) : Obj)).cell? ⟨V3.heap.size, 1, none⟩ = some (.int .i64 2) := (blk_cell H2.out 1).trans rfl
 have b2 : (V5.alloc (.cells #[.int .i64 1, .int .i64 3, .int .i64 1, .int .i64 2, .int .i64 3, .int .i32 99] 53 (0, 0) : Obj)).cell? ⟨V3.heap.size, 2, none⟩ = some (.int .i64 1) := (blk_cell H2.out 2).trans rfl
 have b3 : (V5.alloc (.cells #[.int .i64 1, .int .i64 3, .int .i64 1, .int .i64 2, .int .i64 3, .int .i32 99] 53 (0, 0) : Obj)).cell? ⟨V3.heap.size, 3, none⟩ = some (.int .i64 1) := (blk_cell H2.out 3).trans rfl
 have b4 : (V5.alloc (.cells #[.int .i64 1, .int .i64 3, .int .i64 1, .int .i64 2, .int .i64 3, .int .i32 99] 53 (0, 0) : Obj)).cell? ⟨V3.heap.size, 4, none⟩ = some (.int .i64 2) := (blk_cell H2.out 4).trans rfl
 have b5 : (V5.alloc (.cells #[.int .i64 1, .int .i64 3, .int .i64 1, .int .i64 2, .int .i64 3, .int .i32 99] 53 (0, 0) : Obj)).cell? ⟨V3.heap.size, 5, none⟩ = some (.int .i32 0) := (blk_cell H2.out 5).trans rfl
 have c0 : (V5.alloc (.cells #[.int .i64 1, .int .i64 3, .int .i64 1, .int .i64 2, .int .i64 3, .int .i32 99] 53 (0, 0) : Obj)).cell? ⟨V5.heap.size, 0, none⟩ = some (.int .i64 1) := (blk_cell H3.out 0).trans rfl
 have c1 : (V5.alloc (.cells #[.int .i64 1, .int .i64 3, .int .i64 1, .int .i64 2, .int .i64 3, .int .i32 99] 53 (0, 0) : Obj)).cell? ⟨V5.heap.size, 1, none⟩ = some (.int .i64 3) := (blk_cell H3.out 1).trans rfl
 have c2 : (V5.alloc (.cells #[.int .i64 1, .int .i64 3, .int .i64 1, .int .i64 2, .int .i64 3, .int .i32 99] 53 (0, 0) : Obj)).cell? ⟨V5.heap.size, 2, none⟩ = some (.int .i64 1) := (blk_cell H3.out 2).trans rfl
 have c3 : (V5.alloc (.cells #[.int .i64 1, .int .i64 3, .int .i64 1, .int .i64 2, .int .i64 3, .int .i32 99] 53 (0, 0) : Obj)).cell? ⟨V5.heap.size, 3, none⟩ = some (.int .i64 2) := (blk_cell H3.out 3).trans rfl
 have c4 : (V5.alloc (.cells #[.int .i64 1, .int .i64 3, .int .i64 1, .int .i64 2, .int .i64 3, .int .i32 99] 53 (0, 0) : Obj)).cell? ⟨V5.heap.size, 4, none⟩ = some (.int .i64 3) := (blk_cell H3.out 4).trans rfl
 have c5 : (V5.alloc (.cells #[.int .i64 1, .int .i64 3, .int .i64 1, .int .i64 2, .int .i64 3, .int .i32 99] 53 (0, 0) : Obj)).cell? ⟨V5.heap.size, 5, none⟩ = some (.int .i32 99) := (blk_cell H3.out 5).trans rfl
 go_wp2_with fail
 clear a0 a1 a2 a3 a4 a5 b0 b1 b2 b3 b4 b5 c0 c1 c2 c3 c4 c5
 have hb0 := below_alloc (Below.refl _ (V5.alloc (boxN xC))) (.cells #[.int .i64 1, .int .i64 1, .int .i64 0, .int .i64 0, .int .i64 1, .int .i32 97, .int .i64 1, .int .i64 2, .int .i64 1, .int .i64 1, .int .i64 2, .int .i32 0, .int .i64 1, .int .i64 3, .int .i64 1, .int .i64 2, .int .i64 3, .int .i32 99] 53 (0, 0) : Obj)
 have HS := Aside0.mk (Kd.R_reads' (lit_nodes (V5.alloc (boxN xC)) 0 (Nat.zero_le _) [xA, xB, xC] 3 rfl (by decide) (by decide) #[.int .i64 1, .int .i64 1, .int .i64 0, .int .i64 0, .int .i64 1, .int .i32 97, .int .i64 1, .int .i64 2, .int .i64 1, .int .i64 1, .int .i64 2, .int .i32 0, .int .i64 1, .int .i64 3, .int .i64 1, .int .i64 2, .int .i64 3, .int .i32 99] rfl)).2.2
 have H1 := Aside0.mk (blk_keep H1.out hb0)
 have H3 := Aside0.mk (blk_keep H3.out hb0)
 have HB := Aside0.mk (below_more HB.out hb0)
 clear hb0 H2
 obtain ⟨V6, HV6⟩ : ∃ V6, V6 = ((V5.alloc (.cells #[.int .i64 1, .int .i64 3, .int .i64 1, .int .i64 2, .int .i64 3, .int .i32 99] 53 (0, 0) : Obj)).alloc (.cells #[.int .i64 1, .int .i64 1, .int .i64 0, .int .i64 0, .int .i64 1, .int .i32 97, .int .i64 1, .int .i64 2, .int .i64 1, .int .i64 1, .int .i64 2, .int .i32 0, .int .i64 1, .int .i64 3, .int .i64 1, .int .i64 2, .int .i64 3, .int .i32 99] 53 (0, 0) : Obj)) := ⟨_, rfl⟩
 have HS : Aside0 (Kd.C k53 V6 (some ⟨V5.heap.size + 1, 0, none⟩) 3 [xA, xB, xC]) := ⟨by rw [HV6]; have := HS.out; rw [show (V5.alloc (boxN xC)).heap.size = V5.heap.size + 1 by simp] at this; exact this⟩
 have H1 : Aside0 (V6.heap[V1.heap.size]? = some (boxN xA)) := ⟨by rw [HV6]; exact H1.out⟩
 have H3 : Aside0 (V6.heap[V5.heap.size]? = some (boxN xC)) := ⟨by rw [HV6]; exact H3.out⟩
 have HB : Aside0 (Below w.heap.size w V6) := ⟨by rw [HV6]; exact HB.out⟩
 try rw [show ((V5.alloc (.cells #[.int .i64 1, .int .i64 3, .int .i64 1, .int .i64 2, .int .i64 3, .int .i32 99] 53 (0, 0) : Obj)).alloc (.cells #[.int .i64 1, .int .i64 1, .int .i64 0, .int .i64 0, .int .i64 1, .int .i32 97, .int .i64 1, .int .i64 2, .int .i64 1, .int .i64 1, .int .i64 2, .int .i32 0, .int .i64 1, .int .i64 3, .int .i64 1, .int .i64 2, .int .i64 3, .int .i32 99] 53 (0, 0) : Obj)) = V6 from HV6.symm]
 refine AnyOrder.wp_region (by kernel_rfl) (kf5Inv V6.drew V1.heap.size V5.heap.size _ _ _ _ _ _ _ _ _ _ _ _ _ _ _ _ _ _ _ _ _ _ _ _ _ _ _ _ _ _ _ _ _ _ _ _ _ _ _ _ _ _ _ _ _ _ _ _ _ _ _ _ _ _ _ _ _ _ _ _ _ _ _ _ _ _ _ _ _ _ _ _ _ _ _ _ _ _ _ _ _ _ _ _ _ _ _ _ _ _ _ _ _ _ _ _ _ _ _ _ _) ⟨false, false, false, false, false, false, 0, 0, rfl, rfl, ⟨⟨fun h => (by cases h), fun h => (by cases h), Below.refl _ _, fun h _ => (by cases h), fun h => (by cases h), fun h _ => (by cases h), fun h => (by cases h), fun h => (by cases h), fun h => (by cases h), fun h _ => (by cases h)⟩⟩⟩ ?step ?last
 case step =>
  rintro L ac V i ⟨l0, l1, l2, l3, l4, l5, g5, g6, rfl, rfl, HF⟩ hi K hK
  rcases AnyOrder.up hi [0, 1, 2, 3, 4, 5] rfl with rfl | rfl | rfl | rfl | rfl | rfl
  all_goals
   replace hi := AnyOrder.first hi rfl
   repeat (obtain ⟨ha, hi⟩ := hi; first | obtain rfl := ha | clear ha)
   clear hi
   try simp only [sel_true, selv_true] at hK ⊢
  ·
   obtain ⟨q0, q1, q2, q3, q4, q5⟩ := box_six (blk_keep (blk_drew H1.out) HF.out.below)
   refine AnyOrder.wpOp_go rfl (by rfl) ?_
   go_wp2_with fail
   exact ⟨_, _, _, _, _, _, g5, g6, rfl, rfl, HF⟩
  ·
   obtain ⟨q0, q1, q2, q3, q4, q5⟩ := box_six (blk_keep (blk_drew H3.out) HF.out.below)
   refine AnyOrder.wpOp_go rfl (by rfl) ?_
   go_wp2_with fail
   exact ⟨_, _, _, _, _, _, g5, g6, rfl, rfl, HF⟩
  ·
   obtain rfl : l4 = false := by cases l4 with | false => rfl | true => cases HF.out.ord4 rfl
   have hb1 := below_alloc (Below.refl _ V) boxZ
   refine AnyOrder.wpOp_go rfl (by rfl) ?_
   go_wp2_with fail
   exact ⟨_, _, _, _, _, _, V.heap.size, g6, rfl, rfl, ⟨⟨fun h => (by cases h), HF.out.ord5, below_more HF.out.below hb1, fun _ _ => blk_new _ _, fun h => (by cases h), fun h k => blk_keep (HF.out.z6 h k) hb1, fun h => blk_keep (HF.out.x6 h) hb1, fun _ => HF.out.below.size, HF.out.ge6, fun _ h => Nat.ne_of_gt (by cases l5 with | false => exact blk_lt (HF.out.z6 h rfl) | true => exact blk_lt (HF.out.x6 rfl))⟩⟩⟩
  ·
   obtain rfl : l5 = false := by cases l5 with | false => rfl | true => cases HF.out.ord5 rfl
   have hb1 := below_alloc (Below.refl _ V) boxZ
   refine AnyOrder.wpOp_go rfl (by rfl) ?_
   go_wp2_with fail
   exact ⟨_, _, _, _, _, _, g5, V.heap.size, rfl, rfl, ⟨⟨HF.out.ord4, fun h => (by cases h), below_more HF.out.below hb1, fun h k => blk_keep (HF.out.z5 h k) hb1, fun h => blk_keep (HF.out.x5 h) hb1, fun _ _ => blk_new _ _, fun h => (by cases h), HF.out.ge5, fun _ => HF.out.below.size, fun h _ => Nat.ne_of_lt (by cases l4 with | false => exact blk_lt (HF.out.z5 h rfl) | true => exact blk_lt (HF.out.x5 rfl))⟩⟩⟩
  ·
   refine AnyOrder.wpOp_go rfl (by rfl) ?_
   refine op_boxNode (.tmp 5) (.tmp 22) rfl rfl (HF.out.z5 rfl rfl) xA rfl rfl ?_
   intro W4 h1 h2
   have far : ∀ {q : Nat} {o : Obj}, V.heap[q]? = some o → q ≠ g5 → W4.heap[q]? = some o := fun hq hn => (h2.block _ (blk_lt hq) (fun e => hn (Option.some.inj e))).trans hq
   exact hK _ _ ⟨_, _, _, _, _, _, g5, g6, rfl, rfl, ⟨⟨fun _ => rfl, HF.out.ord5, HF.out.below.grown h2 HF.out.below.size (fun q e => by cases e; exact HF.out.ge5 rfl), fun _ h => (by cases h), fun _ => h1, fun h k => far (HF.out.z6 h k) (fun e => HF.out.ne rfl h e.symm), fun h => far (HF.out.x6 h) (fun e => HF.out.ne rfl (HF.out.ord5 h) e.symm), HF.out.ge5, HF.out.ge6, HF.out.ne⟩⟩⟩
  ·
   refine AnyOrder.wpOp_go rfl (by rfl) ?_
   refine op_boxNode (.tmp 6) (.tmp 23) rfl rfl (HF.out.z6 rfl rfl) xC rfl rfl ?_
   intro W4 h1 h2
   have far : ∀ {q : Nat} {o : Obj}, V.heap[q]? = some o → q ≠ g6 → W4.heap[q]? = some o := fun hq hn => (h2.block _ (blk_lt hq) (fun e => hn (Option.some.inj e))).trans hq
   exact hK _ _ ⟨_, _, _, _, _, _, g5, g6, rfl, rfl, ⟨⟨HF.out.ord4, fun _ => rfl, HF.out.below.grown h2 HF.out.below.size (fun q e => by cases e; exact HF.out.ge6 rfl), fun h k => far (HF.out.z5 h k) (fun e => HF.out.ne h rfl e), fun h => far (HF.out.x5 h) (fun e => HF.out.ne (HF.out.ord4 h) rfl e), fun _ h => (by cases h), fun _ => h1, HF.out.ge5, HF.out.ge6, HF.out.ne⟩⟩⟩
 case last =>
  rintro L ac V ⟨l0, l1, l2, l3, l4, l5, g5, g6, rfl, rfl, HF⟩ hr
  obtain ⟨rfl, rfl, rfl, rfl, rfl, rfl, -⟩ := AnyOrder.alls rfl (by kernel_rfl) hr
  clear hr
  simp only [sel_true, selv_true]
  have H5 := Aside0.mk (HF.out.x5 rfl)
  have H6 := Aside0.mk (HF.out.x6 rfl)
  have HNE := Aside0.mk (HF.out.ne rfl rfl)
  have hbb := below_more (below_drew1 (Below.refl _ V6)) HF.out.below
  have HG : Aside0 (V6.heap.size ≤ g5 ∧ V6.heap.size ≤ g6) := ⟨HF.out.ge5 rfl, HF.out.ge6 rfl⟩
  have HB6 := Aside0.mk hbb
  clear HF hbb H1 H3
  generalize V = V7 at *
  have c5 : V7.cell? ⟨g5, 5, none⟩ = some (.int .i32 97) := (blk_cell H5.out 5).trans rfl
  have f5 := blk_frozen H5.out 5
  have h6 : (V7.setCell ⟨g5, 5, none⟩ (.int .i32 0)).heap[g6]? = some (boxN xC) := by rw [far_setCell (fun e => HNE.out e.symm)]; exact H6.out
  have c6 : (V7.setCell ⟨g5, 5, none⟩ (.int .i32 0)).cell? ⟨g6, 5, none⟩ = some (.int .i32 99) := (blk_cell h6 5).trans rfl
  have f6 := blk_frozen h6 5
  have K6 := Aside0.mk (blk_set h6 5 (.int .i32 0))
  have k5 := blk_set H5.out 5 (.int .i32 0)
  have K5 : Aside0 (((V7.setCell ⟨g5, 5, none⟩ (.int .i32 0)).setCell ⟨g6, 5, none⟩ (.int .i32 0)).heap[g5]? = some (boxN xG)) := ⟨by rw [far_setCell HNE.out]; exact k5⟩
  have K6 : Aside0 (((V7.setCell ⟨g5, 5, none⟩ (.int .i32 0)).setCell ⟨g6, 5, none⟩ (.int .i32 0)).heap[g6]? = some (boxN xL)) := ⟨K6.out⟩
  have HB7 : Aside0 (Below V6.heap.size V6 ((V7.setCell ⟨g5, 5, none⟩ (.int .i32 0)).setCell ⟨g6, 5, none⟩ (.int .i32 0))) := ⟨by
   have h1 := HB6.out.grown (grown_cell (V := V7) (W := V7) ⟨rfl, rfl, rfl, Nat.le_refl _, fun _ _ _ => rfl⟩ 5 (.int .i32 0)) HB6.out.size (fun q e => by cases e; exact HG.out.1)
   exact h1.grown (grown_cell (V := V7.setCell ⟨g5, 5, none⟩ (.int .i32 0)) (W := V7.setCell ⟨g5, 5, none⟩ (.int .i32 0)) ⟨rfl, rfl, rfl, Nat.le_refl _, fun _ _ _ => rfl⟩ 5 (.int .i32 0)) h1.size (fun q e => by cases e; exact HG.out.2)⟩
  clear k5 h6
  go_wp2_with fail
  clear c5 f5 c6 f6
  have HB := Aside0.mk (below_more HB.out HB7.out)
  have HS := Aside0.mk (Kd.C_below HS.out HB7.out)
  clear HB6 HB7 H5 H6 HNE HG
  generalize (V7.setCell ⟨g5, 5, none⟩ (.int .i32 0)).setCell ⟨g6, 5, none⟩ (.int .i32 0) = V8 at *
  generalize V5.heap.size + 1 = gS at *
  refine (redpencillaw15_dot.calls 2 1 2 1 V8 rfl).mono ?_
  rintro e V9 ⟨rfl, hb⟩
  have HB := Aside0.mk (below_more HB.out hb)
  have HS := Aside0.mk (Kd.C_below HS.out hb)
  have K5 := Aside0.mk (blk_keep K5.out hb)
  have K6 := Aside0.mk (blk_keep K6.out hb)
  clear hb
  go_wp2_with fail
  refine (redpencillaw15_dot.calls 1 1 1 1 V9 rfl).mono ?_
  rintro e V10 ⟨rfl, hb⟩
  have HB := Aside0.mk (below_more HB.out hb)
  have HS := Aside0.mk (Kd.C_below HS.out hb)
  have K5 := Aside0.mk (blk_keep K5.out hb)
  have K6 := Aside0.mk (blk_keep K6.out hb)
  clear hb
  go_wp2_with fail
  refine (redpencillaw15_dot.calls 2 2 2 2 V10 rfl).mono ?_
  rintro e V11 ⟨rfl, hb⟩
  have HB := Aside0.mk (below_more HB.out hb)
  have HS := Aside0.mk (Kd.C_below HS.out hb)
  have K5 := Aside0.mk (blk_keep K5.out hb)
  have K6 := Aside0.mk (blk_keep K6.out hb)
  clear hb
  go_wp2_with fail
  refine (redpencillaw15_dot.calls 2 1 2 1 V11 rfl).mono ?_
  rintro e V12 ⟨rfl, hb⟩
  have HB := Aside0.mk (below_more HB.out hb)
  have HS := Aside0.mk (Kd.C_below HS.out hb)
  have K5 := Aside0.mk (blk_keep K5.out hb)
  have K6 := Aside0.mk (blk_keep K6.out hb)
  clear hb
  go_wp2_with fail
  have hb := below_alloc (Below.refl V12.heap.size V12) (.cells #[.int .i64 2, .int .i64 1, .int .i64 1, .int .i64 1, .int .i64 4, .int .i32 120, .int .i64 2, .int .i64 2, .int .i64 2, .int .i64 1, .int .i64 5, .int .i32 121] 53 (0, 0) : Obj)
  have HX := Aside0.mk (Kd.R_reads' (lit_nodes V12 0 (Nat.zero_le _) [xX, xY] 2 rfl (by decide) (by decide) #[.int .i64 2, .int .i64 1, .int .i64 1, .int .i64 1, .int .i64 4, .int .i32 120, .int .i64 2, .int .i64 2, .int .i64 2, .int .i64 1, .int .i64 5, .int .i32 121] rfl)).2.2
  have HB := Aside0.mk (below_more HB.out hb)
  have HS := Aside0.mk (Kd.C_below HS.out hb)
  have K5 := Aside0.mk (blk_keep K5.out hb)
  have K6 := Aside0.mk (blk_keep K6.out hb)
  clear hb
  obtain ⟨V13, HV13⟩ : ∃ V13, V13 = V12.alloc (.cells #[.int .i64 2, .int .i64 1, .int .i64 1, .int .i64 1, .int .i64 4, .int .i32 120, .int .i64 2, .int .i64 2, .int .i64 2, .int .i64 1, .int .i64 5, .int .i32 121] 53 (0, 0) : Obj) := ⟨_, rfl⟩
  rw [← HV13] at HB HS K5 K6 HX
  try rw [show V12.alloc (.cells #[.int .i64 2, .int .i64 1, .int .i64 1, .int .i64 1, .int .i64 4, .int .i32 120, .int .i64 2, .int .i64 2, .int .i64 2, .int .i64 1, .int .i64 5, .int .i32 121] 53 (0, 0) : Obj) = V13 from HV13.symm]
  refine AnyOrder.wp_region (by kernel_rfl) (kf8Inv V13.drew g5 g6 _ _ _ _ _ _ _ _ _ _ _ _ _ _ _ _ _ _ _ _ _ _ _ _ _ _ _ _ _ _ _ _ _ _ _ _ _ _ _ _ _ _ _ _ _ _ _ _ _ _ _ _ _ _ _ _ _ _ _ _ _ _ _ _ _ _ _ _ _ _ _ _ _ _ _ _ _ _ _ _ _ _ _ _ _ _ _ _ _ _ _ _ _ _ _ _ _ _ _ _ _) ⟨false, false, false, false, false, false, 0, rfl, rfl, ⟨⟨Below.refl _ _, fun h => (by cases h), fun h => (by cases h)⟩⟩⟩ ?step ?last
  case step =>
   rintro L ac V i ⟨l0, l1, l2, l3, l4, l5, gZ, rfl, rfl, HF⟩ hi K hK
   rcases AnyOrder.up hi [0, 1, 2, 3, 4, 5] rfl with rfl | rfl | rfl | rfl | rfl | rfl
   all_goals
    replace hi := AnyOrder.first hi rfl
    repeat (obtain ⟨ha, hi⟩ := hi; first | obtain rfl := ha | clear ha)
    clear hi
    try simp only [sel_true, selv_true] at hK ⊢
   ·
    obtain ⟨q0, q1, q2, q3, q4, q5⟩ := box_six (blk_keep (blk_drew K5.out) HF.out.below)
    refine AnyOrder.wpOp_go rfl (by rfl) ?_
    go_wp2_with fail
    exact ⟨_, _, _, _, _, _, gZ, rfl, rfl, HF⟩
   ·
    refine AnyOrder.wpOp_go rfl (by rfl) ?_
    go_wp2_with fail
    refine (redpencillaw15_dot.calls 2 1 2 1 V rfl).mono ?_
    rintro e V' ⟨rfl, hb⟩
    exact hK _ _ ⟨_, _, _, _, _, _, gZ, rfl, rfl, ⟨⟨below_more HF.out.below hb, fun h => RN.below' (HF.out.z h) hb, HF.out.ord⟩⟩⟩
   ·
    refine AnyOrder.wpOp_go rfl (by rfl) ?_
    go_wp2_with fail
    exact ⟨_, _, _, _, _, _, gZ, rfl, rfl, HF⟩
   ·
    obtain ⟨q0, q1, q2, q3, q4, q5⟩ := box_six (blk_keep (blk_drew K6.out) HF.out.below)
    refine AnyOrder.wpOp_go rfl (by rfl) ?_
    go_wp2_with fail
    exact ⟨_, _, _, _, _, _, gZ, rfl, rfl, HF⟩
   ·
    obtain rfl : l5 = false := by cases l5 with | false => rfl | true => cases HF.out.ord rfl
    (try simp only [selv_false] at hK ⊢)
    refine AnyOrder.wpOp_go rfl (by rfl) ?_
    go_wp2_with fail
    exact ⟨_, _, _, _, _, _, V.heap.size, rfl, rfl, ⟨⟨below_more HF.out.below (below_alloc (Below.refl _ V) _), fun _ => lit_nodes V V13.drew.heap.size HF.out.below.size [xG, xZ, xL] 3 rfl (by decide) (by decide) #[.int .i64 1, .int .i64 1, .int .i64 0, .int .i64 0, .int .i64 1, .int .i32 0, .int .i64 2, .int .i64 1, .int .i64 0, .int .i64 0, .int .i64 4, .int .i32 122, .int .i64 1, .int .i64 3, .int .i64 1, .int .i64 2, .int .i64 3, .int .i32 0] rfl, fun _ => rfl⟩⟩⟩
   ·
    refine AnyOrder.wpOp_go rfl (by rfl) ?_
    go_wp2_with fail
    exact ⟨_, _, _, _, _, _, gZ, rfl, rfl, ⟨⟨HF.out.below, HF.out.z, fun _ => rfl⟩⟩⟩
  case last =>
   rintro L ac V ⟨l0, l1, l2, l3, l4, l5, gZ, rfl, rfl, HF⟩ hr
   obtain ⟨rfl, rfl, rfl, rfl, rfl, rfl, -⟩ := AnyOrder.alls rfl (by kernel_rfl) hr
   clear hr
   simp only [sel_true, selv_true]
   have hbb := below_more (below_drew1 (Below.refl _ V13)) HF.out.below
   have HK := Aside0.mk (show K15 w gS V12.heap.size gZ g6 V from ⟨below_more HB.out hbb, Kd.C_below HS.out hbb, Kd.C_below HX.out hbb, (Kd.R_reads' (HF.out.z rfl)).2.2, blk_keep K6.out hbb⟩)
   clear HF hbb HB HS HX K5 K6 HV13 HV6
   generalize V12.heap.size = gX at *
   generalize V = U0 at *
   go_wp2_with fail
   refine (redpencillaw15_dot.calls 2 1 2 1 _ rfl).mono ?_
   rintro e U1 ⟨rfl, hb⟩
   have HK := Aside0.mk (HK.out.more hb)
   clear hb
   go_wp2_with fail
   have hb := below_alloc (Below.refl _ U1) (.cells #[.int .i32 120, .int .i32 121] 21 (0, 0) : Obj)
   have HRR := Aside0.mk (blk_new U1 (.cells #[.int .i32 120, .int .i32 121] 21 (0, 0) : Obj))
   have HK := Aside0.mk (HK.out.more hb)
   clear hb
   refine (redpencillaw15_inserts.calls 60 _ 3 [xA, xB, xC] 2 1 1 _ 2 [120, 121] _ 2 [xX, xY] 0 true _ HK.out.s (Nat.le_refl _) (intRow_C [120, 121] _ rfl HRR.out (by decide)) (Nat.le_refl _) HK.out.x (Nat.le_refl _) kn15_0).mono ?_
   rintro e U2 ⟨rfl, hb⟩
   have HK := Aside0.mk (HK.out.more hb)
   clear hb
   clear HRR
   go_wp2_with fail
   refine (texts_call 60 _ 3 [xA, xB, xC] _ 2 [xX, xY] ⟨#[97, 120, 121, 99]⟩ _ _ _ HK.out.s (Nat.le_refl _) HK.out.x (Nat.le_refl _) kn15_1 (by kernel_rfl)).mono ?_
   rintro e U3 ⟨rfl, hb⟩
   have HK := Aside0.mk (HK.out.more hb)
   clear hb
   obtain ⟨q0, q1, q2, q3, q4, q5⟩ := box_six HK.out.also
   go_wp2_with fail
   clear q0 q1 q2 q3 q4 q5
   have HRL := Aside0.mk (Kd.R_reads' (lit_nodes U3 0 (Nat.zero_le _) [xL] 1 rfl (by decide) (by decide) #[.int .i64 1, .int .i64 3, .int .i64 1, .int .i64 2, .int .i64 3, .int .i32 0] rfl)).2.2
   have hb := below_alloc (Below.refl _ U3) (.cells #[.int .i64 1, .int .i64 3, .int .i64 1, .int .i64 2, .int .i64 3, .int .i32 0] 53 (0, 0) : Obj)
   have HK := Aside0.mk (HK.out.more hb)
   clear hb
   refine (redpencillaw15_deletes.calls 60 _ 3 [xA, xB, xC] 1 1 _ 1 [xL] 0 true _ HK.out.s (Nat.le_refl _) HRL.out (Nat.le_refl _) kn15_2).mono ?_
   rintro e U4 ⟨rfl, hb⟩
   have HK := Aside0.mk (HK.out.more hb)
   clear hb
   clear HRL
   go_wp2_with fail
   refine (redpencillaw15_dot.calls 2 1 2 1 _ rfl).mono ?_
   rintro e U5 ⟨rfl, hb⟩
   have HK := Aside0.mk (HK.out.more hb)
   clear hb
   go_wp2_with fail
   have hb := below_alloc (Below.refl _ U5) (.cells #[.int .i32 122] 21 (0, 0) : Obj)
   have HRR := Aside0.mk (blk_new U5 (.cells #[.int .i32 122] 21 (0, 0) : Obj))
   have HK := Aside0.mk (HK.out.more hb)
   clear hb
   refine (redpencillaw15_replaces.calls 60 _ 3 [xA, xB, xC] 2 1 0 2 _ 1 [122] _ 3 [xG, xZ, xL] 0 true _ HK.out.s (Nat.le_refl _) (intRow_C [122] _ rfl HRR.out (by decide)) (Nat.le_refl _) HK.out.z (Nat.le_refl _) kn15_3).mono ?_
   rintro e U6 ⟨rfl, hb⟩
   have HK := Aside0.mk (HK.out.more hb)
   clear hb
   clear HRR
   go_wp2_with fail
   refine (texts_call 60 _ 3 [xA, xB, xC] _ 3 [xG, xZ, xL] ⟨#[122]⟩ _ _ _ HK.out.s (Nat.le_refl _) HK.out.z (Nat.le_refl _) kn15_4 (by kernel_rfl)).mono ?_
   rintro e U7 ⟨rfl, hb⟩
   have HK := Aside0.mk (HK.out.more hb)
   clear hb
   go_wp2_with fail
   have hb := below_alloc (Below.refl _ U7) (.cells #[.int .i32 120] 21 (0, 0) : Obj)
   have HRR := Aside0.mk (blk_new U7 (.cells #[.int .i32 120] 21 (0, 0) : Obj))
   have HK := Aside0.mk (HK.out.more hb)
   clear hb
   have HONE := Aside0.mk HRR.out
   clear HRR
   refine (redpencillaw15_dot.calls 2 1 2 1 _ rfl).mono ?_
   rintro e U8 ⟨rfl, hb⟩
   have HK := Aside0.mk (HK.out.more hb)
   have HONE := Aside0.mk (blk_keep HONE.out hb)
   clear hb
   go_wp2_with fail
   refine (redpencillaw15_inserts.calls 60 _ 3 [xA, xB, xC] 2 1 3 _ 1 [120] _ 0 [] 3 true _ HK.out.s (Nat.le_refl _) (intRow_C [120] _ rfl HONE.out (by decide)) (Nat.le_refl _) nilNs (Nat.le_refl _) kn15_5).mono ?_
   rintro e U9 ⟨rfl, hb⟩
   have HK := Aside0.mk (HK.out.more hb)
   have HONE := Aside0.mk (blk_keep HONE.out hb)
   clear hb
   go_wp2_with fail
   refine (redpencillaw15_dot.calls 1 1 1 1 _ rfl).mono ?_
   rintro e U10 ⟨rfl, hb⟩
   have HK := Aside0.mk (HK.out.more hb)
   have HONE := Aside0.mk (blk_keep HONE.out hb)
   clear hb
   go_wp2_with fail
   refine (redpencillaw15_inserts.calls 60 _ 3 [xA, xB, xC] 1 1 0 _ 1 [120] _ 0 [] 11 true _ HK.out.s (Nat.le_refl _) (intRow_C [120] _ rfl HONE.out (by decide)) (Nat.le_refl _) nilNs (Nat.le_refl _) kn15_6).mono ?_
   rintro e U11 ⟨rfl, hb⟩
   have HK := Aside0.mk (HK.out.more hb)
   have HONE := Aside0.mk (blk_keep HONE.out hb)
   clear hb
   clear HONE
   go_wp2_with fail
   refine (redpencillaw15_dot.calls 2 4294967295 2 4294967295 _ rfl).mono ?_
   rintro e U12 ⟨rfl, hb⟩
   have HK := Aside0.mk (HK.out.more hb)
   clear hb
   go_wp2_with fail
   have hb := below_alloc (Below.refl _ U12) (.cells #[.int .i32 120, .int .i32 121] 21 (0, 0) : Obj)
   have HRR := Aside0.mk (blk_new U12 (.cells #[.int .i32 120, .int .i32 121] 21 (0, 0) : Obj))
   have HK := Aside0.mk (HK.out.more hb)
   clear hb
   refine (redpencillaw15_inserts.calls 60 _ 3 [xA, xB, xC] 2 4294967295 0 _ 2 [120, 121] _ 0 [] 14 true _ HK.out.s (Nat.le_refl _) (intRow_C [120, 121] _ rfl HRR.out (by decide)) (Nat.le_refl _) nilNs (Nat.le_refl _) kn15_7).mono ?_
   rintro e U13 ⟨rfl, hb⟩
   have HK := Aside0.mk (HK.out.more hb)
   clear hb
   clear HRR
   go_wp2_with fail
   refine (redpencillaw15_dot.calls 2 1 2 1 _ rfl).mono ?_
   rintro e U14 ⟨rfl, hb⟩
   have HK := Aside0.mk (HK.out.more hb)
   clear hb
   go_wp2_with fail
   have hb := below_alloc (Below.refl _ U14) (.cells #[.int .i32 0] 21 (0, 0) : Obj)
   have HRR := Aside0.mk (blk_new U14 (.cells #[.int .i32 0] 21 (0, 0) : Obj))
   have HK := Aside0.mk (HK.out.more hb)
   clear hb
   refine (redpencillaw15_inserts.calls 60 _ 3 [xA, xB, xC] 2 1 0 _ 1 [0] _ 0 [] 13 true _ HK.out.s (Nat.le_refl _) (intRow_C [0] _ rfl HRR.out (by decide)) (Nat.le_refl _) nilNs (Nat.le_refl _) kn15_8).mono ?_
   rintro e U15 ⟨rfl, hb⟩
   have HK := Aside0.mk (HK.out.more hb)
   clear hb
   clear HRR
   go_wp2_with fail
   refine (redpencillaw15_deletes.calls 60 _ 3 [xA, xB, xC] 0 3 _ 0 [] 3 true _ HK.out.s (Nat.le_refl _) nilNs (Nat.le_refl _) kn15_9).mono ?_
   rintro e U16 ⟨rfl, hb⟩
   have HK := Aside0.mk (HK.out.more hb)
   clear hb
   go_wp2_with fail
   refine (edit_Latest.calls 60 _ 3 [xA, xB, xC] 3 _ HK.out.s (Nat.le_refl _) kn15_10).mono ?_
   rintro e U17 ⟨rfl, hb⟩
   have HK := Aside0.mk (HK.out.more hb)
   clear hb
   go_wp2
   go_ret
   exact ⟨rfl, HK.out.below⟩
def redpencillaw15_known.f : Option Bool := some true
theorem redpencillaw15_known.calls (r : Bool) (w : World) (h : redpencillaw15_known.f = some r) : Calls Tryz.prog 10 #[] w fun e w' => e = .returned (.bool r) ∧ Below w.heap.size w w' := by
 cases h
 exact known15_call w
end Go.Proofs.YtmbndijbpgobeaaGreat.PWalk
end
section
namespace Go.Proofs.YtmbndijbpgobeaaGreat.PWalk
open Go.RowKit Go.Proofs.YtmbndijbpgobeaaGreatW.PrintWords Go.Proofs.YtmbndijbpgobeaaGreatW.PrintLast Go.Proofs.YtmbndijbpgobeaaGreatW.PrintMore
attribute [local go_sem] max2_int max_two
set_option linter.unusedVariables false
set_option linter.unusedSimpArgs false
def redpencilref14_Before.f (a0_0 : Int) (a0_1 : Int) (a1_0 : Int) (a1_1 : Int) : Option (Bool) := if a0_1 < a1_1 then (some true) else (if a0_1 = a1_1 then (some (decide (a0_0 < a1_0))) else (some false))
set_option maxHeartbeats 8000000 in
set_option maxRecDepth 100000 in
theorem redpencilref14_Before.calls (a0_0 : Int) (a0_1 : Int) (a1_0 : Int) (a1_1 : Int) (r : Bool) (w : World) (h : redpencilref14_Before.f a0_0 a0_1 a1_0 a1_1 = some r) :
  Calls Tryz.prog 58 #[.agg #[.int .i64 a0_0, .int .i64 a0_1], .agg #[.int .i64 a1_0, .int .i64 a1_1]] w fun e w' => e = .returned (.bool r) ∧ Below w.heap.size w w' := by
 have hu25 := Tryz.underlying25
 have HB := Aside0.mk (Below.refl w.heap.size w)
 have H : (if a0_1 < a1_1 then (some true) else (if a0_1 = a1_1 then (some (decide (a0_0 < a1_0))) else (some false))) = some r := h
 clear h
 by_cases c3 : a0_1 < a1_1
 ·
  rw [if_pos c3] at H
  have c3b0 : decide (a0_1 < a1_1) = true := decide_eq_true c3
  clear c3
  obtain rfl := Option.some.inj H
  go_enter Tryz.func58, Tryz.ntmps58
  go_wp2_with (first | ((with_reducible refine gate_dst (N := 2) rfl ?_); refine box_event ?hg (N := 2) ?hd (cs := #[.int .i64 a0_0, .int .i64 a0_1]) (t := 25) ?hr ?_; (case hd => rfl); (case hg => rfl); (case hr => first | (go_simp; done) | (go_simp; rfl)); intro gb246 hg w4 hbox hb; have n0_ := Aside0.mk (below_step (by repeat (first | (with_reducible first | exact HB.out | apply below_alloc | apply pw_below_drewN | apply below_drew1) | exact HB.out)) hb); have n1_ := Aside0.mk (hbox); have n2_ := Aside0.mk ((by rw [hg]; exact (below_size (by repeat (first | (with_reducible first | exact HB.out | apply below_alloc | apply pw_below_drewN | apply below_drew1) | exact HB.out))) : w.heap.size ≤ gb246)); have n3_ := Aside0.mk ((by rw [hg]; exact (below_size (by repeat (first | (with_reducible first | exact HB.out | apply below_alloc | apply pw_below_drewN | apply below_drew1) | exact HB.out))) : w.heap.size ≤ gb246)); clear HB; have HB := n0_; have BK246 := n1_; have GW246 := n2_; have GE246 := n3_; clear n0_ n1_ n2_ n3_; clear hb hbox hg) | ((with_reducible refine gate_dst (N := 3) rfl ?_); refine box_event ?hg (N := 3) ?hd (cs := #[.int .i64 a1_0, .int .i64 a1_1]) (t := 25) ?hr ?_; (case hd => rfl); (case hg => rfl); (case hr => first | (go_simp; done) | (go_simp; rfl)); intro gb247 hg w5 hbox hb; have n0_ := Aside0.mk (blk_below (g := gb246) (o := .cells #[.int .i64 a0_0, .int .i64 a0_1] 25 (0, 0)) (by (with_reducible repeat (first | refine blk_drewN ?_ _ | refine blk_drew ?_ | refine blk_alloc ?_ _)); exact BK246.out) hb); have n1_ := Aside0.mk (below_step (by repeat (first | (with_reducible first | exact HB.out | apply below_alloc | apply pw_below_drewN | apply below_drew1 | refine below_set ?_ GE246.out) | exact HB.out)) hb); have n2_ := Aside0.mk (hbox); have n3_ := Aside0.mk ((by rw [hg]; exact (below_size (by repeat (first | (with_reducible first | exact HB.out | apply below_alloc | apply pw_below_drewN | apply below_drew1 | refine below_set ?_ GE246.out) | exact HB.out))) : w.heap.size ≤ gb247)); have n4_ := Aside0.mk ((by rw [hg]; exact (below_size (by repeat (first | (with_reducible first | exact HB.out | apply below_alloc | apply pw_below_drewN | apply below_drew1 | refine below_set ?_ GE246.out) | exact HB.out))) : w.heap.size ≤ gb247)); have n5_ := Aside0.mk ((by rw [hg]; exact Nat.ne_of_lt (blk_lt (g := gb246) (o := .cells #[.int .i64 a0_0, .int .i64 a0_1] 25 (0, 0)) (by (with_reducible repeat (first | refine blk_drewN ?_ _ | refine blk_drew ?_ | refine blk_alloc ?_ _)); exact BK246.out)) : gb246 ≠ gb247)); have n6_ := Aside0.mk ((by rw [hg]; exact Nat.ne_of_gt (blk_lt (g := gb246) (o := .cells #[.int .i64 a0_0, .int .i64 a0_1] 25 (0, 0)) (by (with_reducible repeat (first | refine blk_drewN ?_ _ | refine blk_drew ?_ | refine blk_alloc ?_ _)); exact BK246.out)) : gb247 ≠ gb246)); clear BK246; clear HB; have BK246 := n0_; have HB := n1_; have BK247 := n2_; have GW247 := n3_; have GE247 := n4_; have NB246_247 := n5_; have NB247_246 := n6_; clear n0_ n1_ n2_ n3_ n4_ n5_ n6_; clear hb hbox hg; have hnb6 := NB246_247.out; have hnc6 := NB247_246.out; have hcz7_0 : w5.cell? ⟨gb246, 0, none⟩ = some (.int .i64 a0_0) := (blk_cell BK246.out 0).trans rfl; have hcz7_1 : w5.cell? ⟨gb246, 1, none⟩ = some (.int .i64 a0_1) := (blk_cell BK246.out 1).trans rfl; have hfz7_0 := blk_frozen BK246.out 0; have hfz7_1 := blk_frozen BK246.out 1; have hcz8_0 : w5.cell? ⟨gb247, 0, none⟩ = some (.int .i64 a1_0) := (blk_cell BK247.out 0).trans rfl; have hcz8_1 : w5.cell? ⟨gb247, 1, none⟩ = some (.int .i64 a1_1) := (blk_cell BK247.out 1).trans rfl; have hfz8_0 := blk_frozen BK247.out 0; have hfz8_1 := blk_frozen BK247.out 1))
  go_ret
  exact ⟨by first | rfl | (simp [errW_none, errW_some] <;> rfl) | (simp [*, errW_none, errW_some] <;> rfl), by repeat (first | (with_reducible first | exact HB.out | apply below_alloc | apply pw_below_drewN | apply below_drew1 | refine below_set ?_ GE246.out | refine below_set ?_ GE247.out) | exact HB.out)⟩
 ·
  rw [if_neg c3] at H
  have c3b0 : decide (a0_1 < a1_1) = false := decide_eq_false c3
  clear c3
  by_cases c9 : a0_1 = a1_1
  ·
   rw [if_pos c9] at H
   have c9b0 : (a0_1 == a1_1) = true := beq_iff_eq.mpr c9
   have c9b1 : (a0_1 != a1_1) = false := bne_eq_false_iff_eq.mpr c9
   clear c9
   obtain rfl := Option.some.inj H
   go_enter Tryz.func58, Tryz.ntmps58
   go_wp2_with (first | ((with_reducible refine gate_dst (N := 2) rfl ?_); refine box_event ?hg (N := 2) ?hd (cs := #[.int .i64 a0_0, .int .i64 a0_1]) (t := 25) ?hr ?_; (case hd => rfl); (case hg => rfl); (case hr => first | (go_simp; done) | (go_simp; rfl)); intro gb246 hg w10 hbox hb; have n0_ := Aside0.mk (below_step (by repeat (first | (with_reducible first | exact HB.out | apply below_alloc | apply pw_below_drewN | apply below_drew1) | exact HB.out)) hb); have n1_ := Aside0.mk (hbox); have n2_ := Aside0.mk ((by rw [hg]; exact (below_size (by repeat (first | (with_reducible first | exact HB.out | apply below_alloc | apply pw_below_drewN | apply below_drew1) | exact HB.out))) : w.heap.size ≤ gb246)); have n3_ := Aside0.mk ((by rw [hg]; exact (below_size (by repeat (first | (with_reducible first | exact HB.out | apply below_alloc | apply pw_below_drewN | apply below_drew1) | exact HB.out))) : w.heap.size ≤ gb246)); clear HB; have HB := n0_; have BK246 := n1_; have GW246 := n2_; have GE246 := n3_; clear n0_ n1_ n2_ n3_; clear hb hbox hg) | ((with_reducible refine gate_dst (N := 3) rfl ?_); refine box_event ?hg (N := 3) ?hd (cs := #[.int .i64 a1_0, .int .i64 a1_1]) (t := 25) ?hr ?_; (case hd => rfl); (case hg => rfl); (case hr => first | (go_simp; done) | (go_simp; rfl)); intro gb247 hg w11 hbox hb; have n0_ := Aside0.mk (blk_below (g := gb246) (o := .cells #[.int .i64 a0_0, .int .i64 a0_1] 25 (0, 0)) (by (with_reducible repeat (first | refine blk_drewN ?_ _ | refine blk_drew ?_ | refine blk_alloc ?_ _)); exact BK246.out) hb); have n1_ := Aside0.mk (below_step (by repeat (first | (with_reducible first | exact HB.out | apply below_alloc | apply pw_below_drewN | apply below_drew1 | refine below_set ?_ GE246.out) | exact HB.out)) hb); have n2_ := Aside0.mk (hbox); have n3_ := Aside0.mk ((by rw [hg]; exact (below_size (by repeat (first | (with_reducible first | exact HB.out | apply below_alloc | apply pw_below_drewN | apply below_drew1 | refine below_set ?_ GE246.out) | exact HB.out))) : w.heap.size ≤ gb247)); have n4_ := Aside0.mk ((by rw [hg]; exact (below_size (by repeat (first | (with_reducible first | exact HB.out | apply below_alloc | apply pw_below_drewN | apply below_drew1 | refine below_set ?_ GE246.out) | exact HB.out))) : w.heap.size ≤ gb247)); have n5_ := Aside0.mk ((by rw [hg]; exact Nat.ne_of_lt (blk_lt (g := gb246) (o := .cells #[.int .i64 a0_0, .int .i64 a0_1] 25 (0, 0)) (by (with_reducible repeat (first | refine blk_drewN ?_ _ | refine blk_drew ?_ | refine blk_alloc ?_ _)); exact BK246.out)) : gb246 ≠ gb247)); have n6_ := Aside0.mk ((by rw [hg]; exact Nat.ne_of_gt (blk_lt (g := gb246) (o := .cells #[.int .i64 a0_0, .int .i64 a0_1] 25 (0, 0)) (by (with_reducible repeat (first | refine blk_drewN ?_ _ | refine blk_drew ?_ | refine blk_alloc ?_ _)); exact BK246.out)) : gb247 ≠ gb246)); clear BK246; clear HB; have BK246 := n0_; have HB := n1_; have BK247 := n2_; have GW247 := n3_; have GE247 := n4_; have NB246_247 := n5_; have NB247_246 := n6_; clear n0_ n1_ n2_ n3_ n4_ n5_ n6_; clear hb hbox hg; have hnb12 := NB246_247.out; have hnc12 := NB247_246.out; have hcz13_0 : w11.cell? ⟨gb246, 0, none⟩ = some (.int .i64 a0_0) := (blk_cell BK246.out 0).trans rfl; have hcz13_1 : w11.cell? ⟨gb246, 1, none⟩ = some (.int .i64 a0_1) := (blk_cell BK246.out 1).trans rfl; have hfz13_0 := blk_frozen BK246.out 0; have hfz13_1 := blk_frozen BK246.out 1; have hcz14_0 : w11.cell? ⟨gb247, 0, none⟩ = some (.int .i64 a1_0) := (blk_cell BK247.out 0).trans rfl; have hcz14_1 : w11.cell? ⟨gb247, 1, none⟩ = some (.int .i64 a1_1) := (blk_cell BK247.out 1).trans rfl; have hfz14_0 := blk_frozen BK247.out 0; have hfz14_1 := blk_frozen BK247.out 1))
   go_ret
   exact ⟨by first | rfl | (simp [errW_none, errW_some] <;> rfl) | (simp [*, errW_none, errW_some] <;> rfl), by repeat (first | (with_reducible first | exact HB.out | apply below_alloc | apply pw_below_drewN | apply below_drew1 | refine below_set ?_ GE246.out | refine below_set ?_ GE247.out) | exact HB.out)⟩
  ·
   rw [if_neg c9] at H
   have c9b0 : (a0_1 == a1_1) = false := beq_eq_false_iff_ne.mpr c9
   have c9b1 : (a0_1 != a1_1) = true := bne_iff_ne.mpr c9
   obtain rfl := Option.some.inj H
   go_enter Tryz.func58, Tryz.ntmps58
   go_wp2_with (first | ((with_reducible refine gate_dst (N := 2) rfl ?_); refine box_event ?hg (N := 2) ?hd (cs := #[.int .i64 a0_0, .int .i64 a0_1]) (t := 25) ?hr ?_; (case hd => rfl); (case hg => rfl); (case hr => first | (go_simp; done) | (go_simp; rfl)); intro gb246 hg w15 hbox hb; have n0_ := Aside0.mk (below_step (by repeat (first | (with_reducible first | exact HB.out | apply below_alloc | apply pw_below_drewN | apply below_drew1) | exact HB.out)) hb); have n1_ := Aside0.mk (hbox); have n2_ := Aside0.mk ((by rw [hg]; exact (below_size (by repeat (first | (with_reducible first | exact HB.out | apply below_alloc | apply pw_below_drewN | apply below_drew1) | exact HB.out))) : w.heap.size ≤ gb246)); have n3_ := Aside0.mk ((by rw [hg]; exact (below_size (by repeat (first | (with_reducible first | exact HB.out | apply below_alloc | apply pw_below_drewN | apply below_drew1) | exact HB.out))) : w.heap.size ≤ gb246)); clear HB; have HB := n0_; have BK246 := n1_; have GW246 := n2_; have GE246 := n3_; clear n0_ n1_ n2_ n3_; clear hb hbox hg) | ((with_reducible refine gate_dst (N := 3) rfl ?_); refine box_event ?hg (N := 3) ?hd (cs := #[.int .i64 a1_0, .int .i64 a1_1]) (t := 25) ?hr ?_; (case hd => rfl); (case hg => rfl); (case hr => first | (go_simp; done) | (go_simp; rfl)); intro gb247 hg w16 hbox hb; have n0_ := Aside0.mk (blk_below (g := gb246) (o := .cells #[.int .i64 a0_0, .int .i64 a0_1] 25 (0, 0)) (by (with_reducible repeat (first | refine blk_drewN ?_ _ | refine blk_drew ?_ | refine blk_alloc ?_ _)); exact BK246.out) hb); have n1_ := Aside0.mk (below_step (by repeat (first | (with_reducible first | exact HB.out | apply below_alloc | apply pw_below_drewN | apply below_drew1 | refine below_set ?_ GE246.out) | exact HB.out)) hb); have n2_ := Aside0.mk (hbox); have n3_ := Aside0.mk ((by rw [hg]; exact (below_size (by repeat (first | (with_reducible first | exact HB.out | apply below_alloc | apply pw_below_drewN | apply below_drew1 | refine below_set ?_ GE246.out) | exact HB.out))) : w.heap.size ≤ gb247)); have n4_ := Aside0.mk ((by rw [hg]; exact (below_size (by repeat (first | (with_reducible first | exact HB.out | apply below_alloc | apply pw_below_drewN | apply below_drew1 | refine below_set ?_ GE246.out) | exact HB.out))) : w.heap.size ≤ gb247)); have n5_ := Aside0.mk ((by rw [hg]; exact Nat.ne_of_lt (blk_lt (g := gb246) (o := .cells #[.int .i64 a0_0, .int .i64 a0_1] 25 (0, 0)) (by (with_reducible repeat (first | refine blk_drewN ?_ _ | refine blk_drew ?_ | refine blk_alloc ?_ _)); exact BK246.out)) : gb246 ≠ gb247)); have n6_ := Aside0.mk ((by rw [hg]; exact Nat.ne_of_gt (blk_lt (g := gb246) (o := .cells #[.int .i64 a0_0, .int .i64 a0_1] 25 (0, 0)) (by (with_reducible repeat (first | refine blk_drewN ?_ _ | refine blk_drew ?_ | refine blk_alloc ?_ _)); exact BK246.out)) : gb247 ≠ gb246)); clear BK246; clear HB; have BK246 := n0_; have HB := n1_; have BK247 := n2_; have GW247 := n3_; have GE247 := n4_; have NB246_247 := n5_; have NB247_246 := n6_; clear n0_ n1_ n2_ n3_ n4_ n5_ n6_; clear hb hbox hg; have hnb17 := NB246_247.out; have hnc17 := NB247_246.out; have hcz18_0 : w16.cell? ⟨gb246, 0, none⟩ = some (.int .i64 a0_0) := (blk_cell BK246.out 0).trans rfl; have hcz18_1 : w16.cell? ⟨gb246, 1, none⟩ = some (.int .i64 a0_1) := (blk_cell BK246.out 1).trans rfl; have hfz18_0 := blk_frozen BK246.out 0; have hfz18_1 := blk_frozen BK246.out 1; have hcz19_0 : w16.cell? ⟨gb247, 0, none⟩ = some (.int .i64 a1_0) := (blk_cell BK247.out 0).trans rfl; have hcz19_1 : w16.cell? ⟨gb247, 1, none⟩ = some (.int .i64 a1_1) := (blk_cell BK247.out 1).trans rfl; have hfz19_0 := blk_frozen BK247.out 0; have hfz19_1 := blk_frozen BK247.out 1))
   go_ret
   exact ⟨by first | rfl | (simp [errW_none, errW_some] <;> rfl) | (simp [*, errW_none, errW_some] <;> rfl), by repeat (first | (with_reducible first | exact HB.out | apply below_alloc | apply pw_below_drewN | apply below_drew1 | refine below_set ?_ GE246.out | refine below_set ?_ GE247.out) | exact HB.out)⟩
end Go.Proofs.YtmbndijbpgobeaaGreat.PWalk
end
section
namespace Go.Proofs.YtmbndijbpgobeaaGreat.PWalk
open Go.RowKit Go.Proofs.YtmbndijbpgobeaaGreatW.PrintWords Go.Proofs.YtmbndijbpgobeaaGreatW.PrintLast Go.Proofs.YtmbndijbpgobeaaGreatW.PrintMore
set_option linter.unusedVariables false
set_option linter.unusedSimpArgs false
open Go.Shelf
attribute [local go_sem] Oper.semAt_some
theorem jbefore_is (a b : Dot) : redpencilref14_Before.f a.f0 a.f1 b.f0 b.f1 = some (dotLt a b) := by
 unfold redpencilref14_Before.f dotLt
 by_cases h1 : a.f1 < b.f1
 ·
  rw [if_pos h1, decide_eq_true (.inl h1)]
 ·
  rw [if_neg h1]
  by_cases h2 : a.f1 = b.f1
  ·
   rw [if_pos h2]
   congr 1
   rw [decide_eq_decide]
   exact ⟨fun h => .inr ⟨h2, h⟩, fun h => h.elim (fun h => absurd h h1) (·.2)⟩
  ·
   rw [if_neg h2, decide_eq_false (fun h => h.elim h1 (fun h => h2 h.1))]
def redpencilref14_Copy.f (l0 : List Node) : Option (List Node) := if l0.length ≤ 400000 then some l0 else none
theorem redpencilref14_Copy.calls (A0 : Option Addr) (c0 : Nat) (l0 : List Node) (r : List Node) (w : World) (hr0 : Kd.C k53 w A0 l0.length l0) (hc0 : l0.length ≤ c0) (h : redpencilref14_Copy.f l0 = some r) :
  Calls Tryz.prog 11 #[.slice A0 l0.length c0] w fun e w' => ∃ v0_ : Value, e = .returned v0_ ∧ Kd.R k53 53 w' w.heap.size (fun _ => True) v0_ r ∧ Below w.heap.size w w' := by
 unfold redpencilref14_Copy.f at h
 by_cases hl : l0.length ≤ 400000
 rotate_left
 ·
  rw [if_neg hl] at h; cases h
 rw [if_pos hl] at h
 obtain rfl := Option.some.inj h
 have HR := Aside0.mk hr0
 have HL := Aside0.mk hl
 clear hr0 hc0 h hl
 obtain ⟨n, Hn⟩ : ∃ n, Aside0 (l0.length = n) := ⟨_, ⟨rfl⟩⟩
 rw [Hn.out] at HR HL ⊢
 go_enter Tryz.func11, Tryz.ntmps11
 go_wp2_with (at_builtin; refine app_rows Tryz.underlying23 w.heap.size rfl (.const (.slice none 0 0)) (.tmp 3) rfl (.slice none 0 0) [] l0 A0 n c0 rfl rfl (Kd.R_nil _ _ _ _ _) HR.out (Nat.le_refl _) (by have := HL.out; simp only [List.length_nil]; omega) ?_; intro v1 W1 hr1 hg1)
 go_ret
 exact ⟨_, rfl, hr1, grown_nil hg1⟩
/-- A state with one more node, ahead of the first that is not before it. -/
def insP (x : Node) (l : List Node) : List Node := l.takeWhile (fun y => dotLt y.f0 x.f0) ++ [x] ++ l.dropWhile (fun y => dotLt y.f0 x.f0)
theorem insP_at {x : Node} : ∀ {l : List Node} {k : Nat}, k ≤ l.length → (∀ q y, q < k → l[q]? = some y → dotLt y.f0 x.f0 = true) → (∀ y, l[k]? = some y → dotLt y.f0 x.f0 = false) → insP x l = l.take k ++ [x] ++ l.drop k
 | [], k, hk, _, _ => by
  obtain rfl : k = 0 := by simpa using hk
  rfl
 | y :: l, 0, _, _, h => by
  have := h y rfl
  unfold insP
  rw [List.takeWhile_cons, List.dropWhile_cons, if_neg (by rw [this]; decide), if_neg (by rw [this]; decide)]
  rfl
 | y :: l, k + 1, hk, hp, h => by
  have h0 := hp 0 y (Nat.succ_pos _) rfl
  have ih := insP_at (l := l) (k := k) (by simpa using hk) (fun q z hq hz => hp (q + 1) z (by omega) (by simpa using hz)) (fun z hz => h z (by simpa using hz))
  unfold insP at ih ⊢
  rw [List.takeWhile_cons, List.dropWhile_cons, if_pos h0, if_pos h0, List.take_succ_cons, List.drop_succ_cons, List.cons_append, List.cons_append, ih]
  rfl
/-- What has come up where the rest is made. -/
structure JP (W0 : World) (x : Node) (rest : List Node) (l1 l5 l6 : Bool) (g : Nat) (v2 : Value) (V : World) : Prop where
 ord5 : l5 = true → l1 = true
 ord6 : l6 = true → l5 = true
 below : Below W0.heap.size W0 V
 r1 : l1 = true → l5 = false → RN V W0.heap.size (.slice (some ⟨g, 0, none⟩) 1 1) [x]
 r2 : l5 = true → RN V W0.heap.size v2 ([x] ++ rest)
def pu2Inv (W0 : World) (A0 : Option Addr) (n c0 gx k : Nat) (x y : Node) (lt b : Bool) (z1 z2 z4 z6 z7 z8 z9 z10 z11 z12 z13 z14 z15 z16 z17 z18 z19 z20 z21 z22 z23 z24 z25 z26 z27 z28 z29 z30 z31 z32 z33 z34 : Value) (L : Array Bool) (ac : Act) (V : World) : Prop := ∃ (l0 l1 l2 l3 l4 l5 l6 l7 l8 l9 l10 l11 l12 l13 : Bool), L = #[l0, l1, l2, l3, l4, l5, l6, l7, l8, l9, l10, l11, l12, l13] ∧ ac = { tmps := #[.slice A0 n c0, z1, z2, .pointer (some ⟨gx, 0, none⟩), z4, .int .i64 (k : Int), z6, selv l0 (.int .i64 (k : Int)) (z7), selv l1 (.slice A0 n c0) (z8), selv l2 (.int .i64 (n : Int)) (z9), selv l3 (.bool lt) (z10), selv l4 (.bool lt) (z11), selv l5 (selv lt (.slice A0 n c0) undef) (z12), selv l6 (selv lt (.int .i64 (k : Int)) undef) (z13), selv l7 (selv lt (.pointer (A0.map fun a => a.add (k * 6))) undef) (z14), selv l8 (selv lt (.pointer (A0.map fun a => a.add (k * 6))) undef) (z15), selv l9 (selv lt (vDot y.f0) undef) (z16), selv l10 (selv lt (.pointer (some ⟨gx, 0, none⟩)) undef) (z17), selv l11 (selv lt (vDot x.f0) undef) (z18), selv l12 (selv lt (.bool b) undef) (z19), selv l13 (.bool (lt && b)) (z20), z21, z22, z23, z24, z25, z26, z27, z28, z29, z30, z31, z32, z33, z34], defers := [] } ∧ Aside0 (Below W0.heap.size W0 V)
def pu4Inv (W0 : World) (A0 Ac : Option Addr) (n c0 gx k m3 q3 : Nat) (x : Node) (rest : List Node) (z1 z2 z4 z6 z7 z8 z9 z10 z11 z12 z13 z14 z15 z16 z17 z18 z19 z20 z21 z22 z23 z24 z25 z26 z27 z28 z29 z30 z31 z32 z33 z34 : Value) (L : Array Bool) (ac : Act) (V : World) : Prop := ∃ (l0 l1 l2 l3 l4 l5 l6 : Bool) (g : Nat) (v2 : Value), L = #[l0, l1, l2, l3, l4, l5, l6] ∧ ac = { tmps := #[.slice A0 n c0, z1, z2, .pointer (some ⟨gx, 0, none⟩), z4, .int .i64 (k : Int), selv l6 (v2) (z6), z7, z8, z9, z10, z11, z12, z13, z14, z15, z16, z17, z18, z19, z20, z21, z22, selv l0 (vNode x) (z23), selv l1 (.slice (some ⟨g, 0, none⟩) 1 1) (z24), selv l2 (.slice A0 n c0) (z25), selv l3 (.int .i64 (k : Int)) (z26), selv l4 (.slice Ac m3 q3) (z27), selv l5 (v2) (z28), z29, z30, z31, z32, z33, z34], defers := [] } ∧ Aside0 (JP W0 x rest l1 l5 l6 g v2 V)
set_option maxHeartbeats 4000000 in
set_option maxRecDepth 100000 in
theorem put_call (A0 : Option Addr) (n c0 : Nat) (l : List Node) (x : Node) (w : World) (hr0 : Kd.C k53 w A0 n l) (hc0 : n ≤ c0) (hl : n ≤ 400000) :
  Calls Tryz.prog 60 #[.slice A0 n c0, vNode x] w fun e w' => ∃ v0_ : Value, e = .returned v0_ ∧ RN w' w.heap.size v0_ (insP x l) ∧ Below w.heap.size w w' := by
 have Hn : Aside0 (l.length = n) := ⟨Kd.C_len hr0⟩
 have HR := Aside0.mk hr0
 have HC := Aside0.mk hc0
 have HL := Aside0.mk hl
 have HX := Aside0.mk (blk_new w (boxN x))
 have HB := Aside0.mk (below_alloc (Below.refl _ w) (boxN x))
 have hu := Tryz.underlying53
 have hu2 := Tryz.underlying25
 clear hr0 hc0 hl
 obtain ⟨gx, Hgx⟩ : ∃ g, Aside0 (w.heap.size = g) := ⟨_, ⟨rfl⟩⟩
 rw [Hgx.out] at HX
 go_enter Tryz.func60, Tryz.ntmps60
 go_wp2_with fail
 rw [Hgx.out]
 generalize w.alloc (boxN x) = W1 at *
 go_loopw [5] (fun i wr => ∃ k : Nat, i = .int .i64 k ∧ k ≤ n ∧ Aside0 (∀ q y, q < k → l[q]? = some y → dotLt y.f0 x.f0 = true) ∧ Aside0 (wr.heap[gx]? = some (boxN x)) ∧ Aside0 (Below w.heap.size w wr)) (fun i _ => n - (intOf i).toNat)
 case atStart => exact ⟨0, rfl, Nat.zero_le _, ⟨fun q y hq => absurd hq (Nat.not_lt_zero _)⟩, HX, HB⟩
 case round =>
  obtain ⟨k, rfl, hk, HPRE, HX, HB⟩ := hrel
  have HKN : Aside0 (k ≤ n ∧ n ≤ 400000) := ⟨hk, HL.out⟩
  obtain ⟨lt, HLT⟩ : ∃ b, Aside0 (decide (k < n) = b) := ⟨_, ⟨rfl⟩⟩
  obtain ⟨y, HY⟩ : ∃ y, Aside0 (lt = true → l[k]? = some y) := by
   by_cases h : k < n
   ·
    exact ⟨l[k]'(by rw [Hn.out]; exact h), ⟨fun _ => List.getElem?_eq_getElem _⟩⟩
   ·
    refine ⟨x, ⟨fun h2 => ?_⟩⟩
    rw [← HLT.out] at h2
    exact absurd (of_decide_eq_true h2) (by omega)
  obtain ⟨b, Hb⟩ : ∃ b, Aside0 (dotLt y.f0 x.f0 = b) := ⟨_, ⟨rfl⟩⟩
  go_wp2_with fail
  refine AnyOrder.wp_region (by kernel_rfl) (pu2Inv wr.drew A0 n c0 gx k x y lt b _ _ _ _ _ _ _ _ _ _ _ _ _ _ _ _ _ _ _ _ _ _ _ _ _ _ _ _ _ _ _ _) ⟨false, false, false, false, false, false, false, false, false, false, false, false, false, false, rfl, rfl, ⟨Below.refl _ _⟩⟩ ?step ?last
  case step =>
   rintro L ac V i ⟨l0, l1, l2, l3, l4, l5, l6, l7, l8, l9, l10, l11, l12, l13, rfl, rfl, HF⟩ hi K hK
   rcases AnyOrder.up hi [0, 1, 2, 4, 3, 5, 6, 10, 7, 8, 9, 11, 12, 13] rfl with rfl | rfl | rfl | rfl | rfl | rfl | rfl | rfl | rfl | rfl | rfl | rfl | rfl | rfl
   all_goals
    replace hi := AnyOrder.first hi rfl
    repeat (obtain ⟨ha, hi⟩ := hi; first | obtain rfl := ha | clear ha)
    clear hi
    try simp only [sel_true, selv_true] at hK ⊢
   iterate 4
    ·
     refine AnyOrder.wpOp_go rfl (by rfl) ?_
     go_wp2_with fail
     exact ⟨_, _, _, _, _, _, _, _, _, _, _, _, _, _, rfl, rfl, HF⟩
   ·
    refine AnyOrder.wpOp_go rfl (by rfl) ?_
    go_wp2_with fail
    rw [HLT.out]
    exact ⟨_, _, _, _, _, _, _, _, _, _, _, _, _, _, rfl, rfl, HF⟩
   iterate 3
    ·
     cases lt
     ·
      refine AnyOrder.wpOp_out rfl (by rfl) ?_
      exact hK _ _ ⟨_, _, _, _, _, _, _, _, _, _, _, _, _, _, rfl, rfl, HF⟩
     ·
      refine AnyOrder.wpOp_go rfl (by rfl) ?_
      go_wp2_with fail
      exact ⟨_, _, _, _, _, _, _, _, _, _, _, _, _, _, rfl, rfl, HF⟩
   ·
    cases lt
    ·
     refine AnyOrder.wpOp_out rfl (by rfl) ?_
     exact hK _ _ ⟨_, _, _, _, _, _, _, _, _, _, _, _, _, _, rfl, rfl, HF⟩
    ·
     obtain ⟨ad, e, q0, q1, q2, q3, q4, q5⟩ := node_at HR.out (below_more HB.out (below_more (below_drew1 (Below.refl _ wr)) HF.out)) k y (HY.out rfl)
     subst e
     have hkk := HKN.out
     have hlt := of_decide_eq_true HLT.out
     clear q0 q1 q2 q3 q4 q5
     refine AnyOrder.wpOp_go rfl (by rfl) ?_
     go_wp2_with fail
     exact ⟨_, _, _, _, _, _, _, _, _, _, _, _, _, _, rfl, rfl, HF⟩
   iterate 2
    ·
     cases lt
     ·
      refine AnyOrder.wpOp_out rfl (by rfl) ?_
      exact hK _ _ ⟨_, _, _, _, _, _, _, _, _, _, _, _, _, _, rfl, rfl, HF⟩
     ·
      obtain ⟨ad, e, q0, q1, q2, q3, q4, q5⟩ := node_at HR.out (below_more HB.out (below_more (below_drew1 (Below.refl _ wr)) HF.out)) k y (HY.out rfl)
      subst e
      refine AnyOrder.wpOp_go rfl (by rfl) ?_
      go_wp2_with fail
      exact ⟨_, _, _, _, _, _, _, _, _, _, _, _, _, _, rfl, rfl, HF⟩
   ·
    cases lt
    ·
     refine AnyOrder.wpOp_out rfl (by rfl) ?_
     exact hK _ _ ⟨_, _, _, _, _, _, _, _, _, _, _, _, _, _, rfl, rfl, HF⟩
    ·
     obtain ⟨q0, q1, q2, q3, q4, q5⟩ := box_six (blk_keep (blk_drew HX.out) HF.out)
     refine AnyOrder.wpOp_go rfl (by rfl) ?_
     go_wp2_with fail
     exact ⟨_, _, _, _, _, _, _, _, _, _, _, _, _, _, rfl, rfl, HF⟩
   ·
    cases lt
    ·
     refine AnyOrder.wpOp_out rfl (by rfl) ?_
     exact hK _ _ ⟨_, _, _, _, _, _, _, _, _, _, _, _, _, _, rfl, rfl, HF⟩
    ·
     refine AnyOrder.wpOp_go rfl (by rfl) ?_
     go_wp2_with fail
     refine (redpencilref14_Before.calls y.f0.f0 y.f0.f1 x.f0.f0 x.f0.f1 b V (by rw [jbefore_is, Hb.out])).mono ?_
     rintro e V' ⟨rfl, hb⟩
     exact hK _ _ ⟨_, _, _, _, _, _, _, _, _, _, _, _, _, _, rfl, rfl, ⟨below_more HF.out hb⟩⟩
   ·
    cases lt
    ·
     refine AnyOrder.wpOp_go rfl (by rfl) ?_
     go_wp2_with fail
     exact ⟨_, _, _, _, _, _, _, _, _, _, _, _, _, _, rfl, rfl, HF⟩
    ·
     refine AnyOrder.wpOp_go rfl (by rfl) ?_
     go_wp2_with fail
     exact ⟨_, _, _, _, _, _, _, _, _, _, _, _, _, _, rfl, rfl, HF⟩
  case last =>
   rintro L ac V ⟨l0, l1, l2, l3, l4, l5, l6, l7, l8, l9, l10, l11, l12, l13, rfl, rfl, HF⟩ hr
   obtain ⟨rfl, rfl, rfl, rfl, rfl, rfl, rfl, rfl, rfl, rfl, rfl, rfl, rfl, rfl, -⟩ := AnyOrder.alls rfl (by kernel_rfl) hr
   clear hr
   simp only [sel_true, selv_true]
   have hbb := below_more (below_drew1 (Below.refl _ wr)) HF.out
   have HX := Aside0.mk (blk_keep HX.out hbb)
   have HB := Aside0.mk (below_more HB.out hbb)
   clear HF hbb
   cases hs : (lt && b) with
   | true =>
    rw [Bool.and_eq_true] at hs
    obtain ⟨h1, h2⟩ := hs
    have HPRE : Aside0 (∀ q z, q < k + 1 → l[q]? = some z → dotLt z.f0 x.f0 = true) := ⟨fun q z hq hz => by
     rcases Nat.lt_succ_iff_lt_or_eq.1 hq with h | h
     ·
      exact HPRE.out q z h hz
     ·
      subst h
      rw [HY.out h1] at hz
      cases hz
      rw [Hb.out, h2]⟩
    have hkn : k < n := by
     have := HLT.out
     rw [h1] at this
     have := of_decide_eq_true this
     omega
    clear h1 h2
    have hkk := HKN.out
    go_wp2_with fail
    go_roundw
    case rel => exact ⟨k + 1, by go_num, by omega, HPRE, HX, HB⟩
    case measure => simp [intOf]; omega
   | false =>
    have HINS : Aside0 (insP x l = l.take k ++ [x] ++ l.drop k) := ⟨insP_at (by rw [Hn.out]; exact HKN.out.1) HPRE.out fun z hz => by
     have h1 : lt = true := by
      rw [← HLT.out]
      have := (List.getElem?_eq_some_iff.1 hz).1
      exact decide_eq_true (by rw [Hn.out] at this; omega)
     rw [HY.out h1] at hz
     cases hz
     rw [h1] at hs
     rw [Hb.out]
     exact hs⟩
    clear hs
    generalize V = V2 at *
    have HCV := Aside0.mk (Kd.C_below HR.out HB.out)
    obtain ⟨m3, Hm3⟩ : ∃ m3, Aside0 (n - k = m3) := ⟨_, ⟨rfl⟩⟩
    obtain ⟨q3, Hq3⟩ : ∃ q3, Aside0 (c0 - k = q3) := ⟨_, ⟨rfl⟩⟩
    obtain ⟨Ac, HAc⟩ : ∃ Ac, Aside0 ((if c0 = k then A0 else A0.map (·.add (k * 6))) = Ac) := ⟨_, ⟨rfl⟩⟩
    have HCD : Aside0 (Kd.C k53 V2 Ac m3 (l.drop k)) := ⟨by rw [← HAc.out, ← Hm3.out]; exact C_from HCV.out Hn.out HKN.out.1 HC.out⟩
    have HCF : Aside0 (∀ W, (Instr.sliceAt 23 (.slice A0 n c0) (some (.int .i64 (k : Int))) none none).run Tryz.prog W = .ok (.slice Ac m3 q3) W) := ⟨fun W => by rw [← HAc.out, ← Hm3.out, ← Hq3.out]; exact cut_fromT Tryz.underlying23 HKN.out.1 W⟩
    have HM3 : Aside0 (m3 ≤ 400000) := ⟨by have := Hm3.out; have := HKN.out; omega⟩
    go_wp2_with fail
    refine AnyOrder.wp_region (by kernel_rfl) (pu4Inv V2.drew A0 Ac n c0 gx k m3 q3 x (l.drop k) _ _ _ _ _ _ _ _ _ _ _ _ _ _ _ _ _ _ _ _ _ _ _ _ _ _ _ _ _ _ _ _) ⟨false, false, false, false, false, false, false, 0, undef, rfl, rfl, ⟨⟨fun h => (by cases h), fun h => (by cases h), Below.refl _ _, fun h _ => (by cases h), fun h => (by cases h)⟩⟩⟩ ?step ?last
    case step =>
     rintro L ac V i ⟨l0, l1, l2, l3, l4, l5, l6, g, v2, rfl, rfl, HF⟩ hi K hK
     rcases AnyOrder.up hi [0, 1, 2, 3, 4, 5, 6] rfl with rfl | rfl | rfl | rfl | rfl | rfl | rfl
     all_goals
      replace hi := AnyOrder.first hi rfl
      repeat (obtain ⟨ha, hi⟩ := hi; first | obtain rfl := ha | clear ha)
      clear hi
      try simp only [sel_true, selv_true] at hK ⊢
     ·
      obtain ⟨q0, q1, q2, q3, q4, q5⟩ := box_six (blk_keep (blk_drew HX.out) HF.out.below)
      refine AnyOrder.wpOp_go rfl (by rfl) ?_
      go_wp2_with fail
      exact ⟨_, _, _, _, _, _, _, g, v2, rfl, rfl, HF⟩
     ·
      obtain rfl : l5 = false := by cases l5 with | false => rfl | true => cases HF.out.ord5 rfl
      obtain rfl : l6 = false := by cases l6 with | false => rfl | true => cases HF.out.ord6 rfl
      (try simp only [selv_false] at hK ⊢)
      refine AnyOrder.wpOp_go rfl (by rfl) ?_
      go_wp2_with fail
      exact ⟨_, _, _, _, _, _, _, V.heap.size, v2, rfl, rfl, ⟨⟨fun h => (by cases h), fun h => (by cases h), below_more HF.out.below (below_alloc (Below.refl _ V) (boxN x)), fun _ _ => lit_nodes V V2.drew.heap.size HF.out.below.size [x] 1 rfl (by decide) (by decide) #[.int .i64 x.f0.f0, .int .i64 x.f0.f1, .int .i64 x.f1.f0, .int .i64 x.f1.f1, .int .i64 x.f2, .int .i32 x.f3] rfl, fun h => (by cases h)⟩⟩⟩
     iterate 2
      ·
       refine AnyOrder.wpOp_go rfl (by rfl) ?_
       go_wp2_with fail
       exact ⟨_, _, _, _, _, _, _, g, v2, rfl, rfl, HF⟩
     ·
      refine AnyOrder.wpOp_go rfl (by rfl) ?_
      refine op_slice 23 (.tmp 25) (some (.tmp 26)) none rfl rfl rfl rfl (HCF.out V) ?_
      exact hK _ _ ⟨_, _, _, _, _, _, _, g, v2, rfl, rfl, HF⟩
     ·
      obtain rfl : l6 = false := by cases l6 with | false => rfl | true => cases HF.out.ord6 rfl
      have hr1 := HF.out.r1 rfl rfl
      (try simp only [selv_false] at hK ⊢)
      refine AnyOrder.wpOp_go rfl (by rfl) ?_
      refine op_append_rows Tryz.underlying23 V2.drew.heap.size rfl (.tmp 24) (.tmp 27) rfl (.slice (some ⟨g, 0, none⟩) 1 1) [x] (l.drop k) Ac m3 q3 rfl rfl hr1 (Kd.C_below HCD.out (below_more (below_drew1 (Below.refl _ V2)) HF.out.below)) HF.out.below.size (by have := HM3.out; simp only [List.length_cons, List.length_nil]; omega) ?_
      intro v3 W3 h1 h2 _
      exact hK _ _ ⟨_, _, _, _, _, _, _, g, v3, rfl, rfl, ⟨⟨fun _ => rfl, fun h => (by cases h), grown_below HF.out.below hr1 h2, fun _ => fun h => (by cases h), fun _ => h1⟩⟩⟩
     ·
      refine AnyOrder.wpOp_go rfl (by rfl) ?_
      go_wp2_with fail
      exact ⟨_, _, _, _, _, _, _, g, v2, rfl, rfl, ⟨⟨HF.out.ord5, fun _ => rfl, HF.out.below, HF.out.r1, HF.out.r2⟩⟩⟩
    case last =>
     rintro L ac V ⟨l0, l1, l2, l3, l4, l5, l6, g, v2, rfl, rfl, HF⟩ hr
     obtain ⟨rfl, rfl, rfl, rfl, rfl, rfl, rfl, -⟩ := AnyOrder.alls rfl (by kernel_rfl) hr
     clear hr
     simp only [sel_true, selv_true]
     have HR2 := Aside0.mk (HF.out.r2 rfl)
     have HB2 := Aside0.mk (below_more (below_drew1 (Below.refl _ V2)) HF.out.below)
     have HB := Aside0.mk (below_more HB.out HB2.out)
     obtain ⟨A2, c2, rfl⟩ := RN.slice HR2.out
     have HL2 : Aside0 (([x] ++ l.drop k).length = m3 + 1) := ⟨by rw [List.length_append, List.length_drop, Hn.out, Hm3.out]; simp; omega⟩
     rw [HL2.out] at HR2 ⊢
     have HCR := Aside0.mk (RN.C HR2.out)
     have HCT := Aside0.mk (C_to (Kd.C_below HCV.out HB2.out) Hn.out HKN.out.1)
     have hkk := HKN.out
     have hcc := HC.out
     clear HF
     go_wp2_with (first | (at_builtin; refine app_rows Tryz.underlying23 V.heap.size rfl (.const (.slice none 0 0)) (.tmp 31) rfl (.slice none 0 0) [] (l.take k) A0 k c0 rfl rfl (Kd.R_nil _ _ _ _ _) HCT.out (Nat.le_refl _) (by simp only [List.length_nil]; omega) ?_; intro v8 W8 hr8 hg8) | (at_builtin; refine app_rows Tryz.underlying23 V.heap.size rfl (.tmp 32) (.tmp 33) rfl v8 ([] ++ l.take k) ([x] ++ l.drop k) A2 (m3 + 1) c2 rfl rfl hr8 (Kd.C_below HCR.out.2.2 (grown_nil hg8)) (grown_nil hg8).size (by have := HM3.out; rw [List.nil_append, List.length_take]; omega) ?_; intro v9 W9 hr9 hg9) | fail)
     go_ret
     rw [List.nil_append, ← List.append_assoc] at hr9
     exact ⟨_, rfl, by rw [HINS.out]; exact Kd.R_lower hr9 HB.out.size, below_more HB.out (grown_below (grown_nil hg8) hr8 hg9)⟩
end Go.Proofs.YtmbndijbpgobeaaGreat.PWalk
end
section
namespace Go.Proofs.YtmbndijbpgobeaaGreat.PWalk
open Go.RowKit Go.Proofs.YtmbndijbpgobeaaGreatW.PrintWords Go.Proofs.YtmbndijbpgobeaaGreatW.PrintLast Go.Proofs.YtmbndijbpgobeaaGreatW.PrintMore
attribute [local go_sem] max2_int max_two
set_option linter.unusedVariables false
set_option linter.unusedSimpArgs false
def redpencilref14_Stain.l0 : Nat → List (S53) → Int → Option ((List (S53)))
 | 0, _, _ => none
 | k + 1, x0, x2 => if x2 < (x0.length : Int) then (if 0 ≤ x2 then ((some (x0.set (x2 : Int).toNat (⟨(⟨(rd_T53 x0 x2).f0.f0, (rd_T53 x0 x2).f0.f1⟩ : S25), (⟨(rd_T53 x0 x2).f1.f0, (rd_T53 x0 x2).f1.f1⟩ : S25), wrap64 (((rd_T53 x0 x2).f2) + 1), (rd_T53 x0 x2).f3⟩ : S53) : List (S53))).bind fun y273 => (redpencilref14_Stain.l0 k (y273.set (x2 : Int).toNat (⟨(⟨(rd_T53 y273 x2).f0.f0, (rd_T53 y273 x2).f0.f1⟩ : S25), (⟨(rd_T53 y273 x2).f1.f0, (rd_T53 y273 x2).f1.f1⟩ : S25), (rd_T53 y273 x2).f2, 88⟩ : S53)) (wrap64 (x2 + 1)))) else (none)) else (some x0)
def redpencilref14_Stain.f (k : Nat) (l0 : List (S53)) : Option ((List (S53))) := redpencilref14_Stain.l0 k l0 0
set_option maxHeartbeats 8000000 in
set_option maxRecDepth 100000 in
theorem redpencilref14_Stain.calls (k : Nat) (P0_ : Nat → Prop) (u9000_ : Value) (l0 : List (S53)) (r : List (S53)) (w0 w : World) (hB : Below w0.heap.size w0 w) (ho0 : Kd.R k53 53 w w0.heap.size P0_ u9000_ l0) (h : redpencilref14_Stain.f k l0 = some r) :
  Calls Tryz.prog 15 #[u9000_] w fun e w' => e = .returned (.tuple #[]) ∧ Kd.R k53 53 w' w0.heap.size (fun k_ => (P0_ k_ ∨ w.heap.size ≤ k_)) u9000_ r ∧ Below w0.heap.size w0 w' ∧ Kept w w' (fun k_ => P0_ k_) := by
 have HO0 := Aside0.mk (show Kd.R k53 53 w w0.heap.size (fun k_ => (P0_ k_ ∨ w.heap.size ≤ k_)) u9000_ l0 from Kd.R_mono ho0 (fun k_ hk => (.inl hk)))
 have HK := Aside0.mk (Kept.refl w (fun k_ => P0_ k_))
 have HW0 := Aside0.mk hB.size
 have HB := Aside0.mk hB
 clear hB
 have H : (redpencilref14_Stain.l0 k l0 0) = some r := h
 clear h
 have H' := Aside0.mk H
 clear H
 go_enter Tryz.func15, Tryz.ntmps15
 go_wp2
 go_loopg [2] k (fun kq v2 w' => ∃ (x0_1 : List (S53)) (x2_1 : Int), v2 = .int .i64 x2_1 ∧ Aside0 (redpencilref14_Stain.l0 kq x0_1 x2_1 = some r) ∧ Aside0 (kq ≤ k) ∧ Aside0 (Kd.R k53 53 w' w0.heap.size (fun k_ => (P0_ k_ ∨ w.heap.size ≤ k_)) u9000_ x0_1) ∧ Aside0 (Kept w w' (fun k_ => P0_ k_)) ∧ Aside0 (Below w0.heap.size w0 w'))
 case atStart => exact ⟨(l0), (0), (by first | rfl | (simp; done) | (simp [*]; done)), H', ⟨Nat.le_refl _⟩, ⟨by (with_reducible repeat (first | apply Kd.R_alloc | apply Kd.R_drewN | apply Kd.R_drew)); exact HO0.out⟩, ⟨by repeat (first | (with_reducible first | exact HK.out | apply Kept.alloc | apply Kept.drewN | apply Kept.drew) | exact HK.out)⟩, ⟨by repeat (first | (with_reducible first | exact HB.out | apply below_alloc | apply pw_below_drewN | apply below_drew1) | exact HB.out)⟩⟩
 case round =>
  clear H'
  try clear c1
  obtain ⟨x0_1, x2_1, rfl, HA, HK1, HO_0, HK, HB⟩ := hrel
  cases gk with
  | zero => exact absurd HA.out (by simp [redpencilref14_Stain.l0])
  | succ k1 =>
   have H := HA.out
   clear HA
   simp only [redpencilref14_Stain.l0] at H
   by_cases c2 : x2_1 < (x0_1.length : Int)
   ·
    rw [if_pos c2] at H
    have c2b0 : decide (x2_1 < (x0_1.length : Int)) = true := decide_eq_true c2
    clear c2
    by_cases c3 : 0 ≤ x2_1
    ·
     rw [if_pos c3] at H
     have c3b0 : decide (0 ≤ x2_1) = true := decide_eq_true c3
     clear c3
     obtain ⟨y273, hy273⟩ : ∃ y_ : List (S53), y_ = (x0_1.set (x2_1 : Int).toNat (⟨(⟨(rd_T53 x0_1 x2_1).f0.f0, (rd_T53 x0_1 x2_1).f0.f1⟩ : S25), (⟨(rd_T53 x0_1 x2_1).f1.f0, (rd_T53 x0_1 x2_1).f1.f1⟩ : S25), wrap64 (((rd_T53 x0_1 x2_1).f2) + 1), (rd_T53 x0_1 x2_1).f3⟩ : S53)) := ⟨_, rfl⟩
     replace H : (redpencilref14_Stain.l0 k1 (y273.set (x2_1 : Int).toNat (⟨(⟨(rd_T53 y273 x2_1).f0.f0, (rd_T53 y273 x2_1).f0.f1⟩ : S25), (⟨(rd_T53 y273 x2_1).f1.f0, (rd_T53 y273 x2_1).f1.f1⟩ : S25), (rd_T53 y273 x2_1).f2, 88⟩ : S53)) (wrap64 (x2_1 + 1))) = some r := by first | (rw [hy273]; with_reducible exact H) | (have H2_ := (Option.bind_some _ _).symm.trans H; rw [hy273]; with_reducible exact H2_) | (have H2_ := (Option.bind_some _ _).symm.trans H; with_reducible exact H2_) | with_reducible exact H | (rw [hy273]; exact H) | exact H
     have Ny273 := Aside0.mk hy273
     clear hy273
     obtain ⟨y274, hy274⟩ : ∃ y_ : List (S53), y_ = (y273.set (x2_1 : Int).toNat (⟨(⟨(rd_T53 y273 x2_1).f0.f0, (rd_T53 y273 x2_1).f0.f1⟩ : S25), (⟨(rd_T53 y273 x2_1).f1.f0, (rd_T53 y273 x2_1).f1.f1⟩ : S25), (rd_T53 y273 x2_1).f2, 88⟩ : S53)) := ⟨_, rfl⟩
     replace H : (redpencilref14_Stain.l0 k1 y274 (wrap64 (x2_1 + 1))) = some r := by first | (rw [hy274]; with_reducible exact H) | (have H2_ := (Option.bind_some _ _).symm.trans H; rw [hy274]; with_reducible exact H2_) | (have H2_ := (Option.bind_some _ _).symm.trans H; with_reducible exact H2_) | with_reducible exact H | (rw [hy274]; exact H) | exact H
     have Ny274 := Aside0.mk hy274
     clear hy274
     have H' := Aside0.mk H
     clear H
     obtain ⟨Ao6, co6, eo6⟩ := Kd.R_slice HO_0.out
     subst eo6
     have p272 : 0 ≤ (x2_1 : Int) := of_decide_eq_true (by first | (with_reducible assumption) | assumption)
     have q272 : x2_1 < (x0_1.length : Int) := of_decide_eq_true (by first | (with_reducible assumption) | assumption)
     obtain ⟨ad272, e272, hx272_0, hx272_1, hx272_2, hx272_3, hx272_4, hx272_5⟩ := at_T53 (Kd.R_reads' HO_0.out).2.2 x2_1 p272 q272
     cases e272
     replace p272 := eq_true p272
     replace q272 := eq_true q272
     have p4 : 0 ≤ (x2_1 : Int) := of_decide_eq_true (by first | (with_reducible assumption) | assumption)
     have q4 : (x2_1 : Int) < ((x0_1.length : Int) : Int) := of_decide_eq_true (by first | (with_reducible assumption) | assumption)
     obtain ⟨go4, co4, eo4, gb4, gl4, cl4, HG4⟩ := Kd.R_form HO_0.out (by omega)
     (first | cases eo4 | (injection eo4 with ea_ en_ ec_; (first | subst ea_ | (injection ea_ with ea_; subst ea_)); subst ec_; clear en_))
     have GB4 := Aside0.mk gb4
     have GG4 := Aside0.mk HG4
     clear gb4 gl4 HG4
     have HMgo4 := Aside0.mk (show (P0_ go4 ∨ w.heap.size ≤ go4) from (HO_0.out.1 _ rfl))
     (first | simp only [add_plain] at hx272_0 | skip)
     (first | simp only [add_plain] at hx272_1 | skip)
     (first | simp only [add_plain] at hx272_2 | skip)
     (first | simp only [add_plain] at hx272_3 | skip)
     (first | simp only [add_plain] at hx272_4 | skip)
     (first | simp only [add_plain] at hx272_5 | skip)
     obtain ⟨ce4, hcl4, hM4, hcc4, hfr4⟩ := Kd.R_elem HO_0.out z53 (x2_1 : Int) p4 q4
     obtain rfl := k53_openM hM4
     have hx4_0 : wr.cell? ⟨go4, (x2_1 : Int).toNat * 6, none⟩ = some (.int .i64 ((rd_T53 x0_1 x2_1).f0.f0)) := hcc4 0 _ rfl
     have hx4_1 : wr.cell? ⟨go4, (x2_1 : Int).toNat * 6 + 1, none⟩ = some (.int .i64 ((rd_T53 x0_1 x2_1).f0.f1)) := hcc4 1 _ rfl
     have hx4_2 : wr.cell? ⟨go4, (x2_1 : Int).toNat * 6 + 2, none⟩ = some (.int .i64 ((rd_T53 x0_1 x2_1).f1.f0)) := hcc4 2 _ rfl
     have hx4_3 : wr.cell? ⟨go4, (x2_1 : Int).toNat * 6 + 3, none⟩ = some (.int .i64 ((rd_T53 x0_1 x2_1).f1.f1)) := hcc4 3 _ rfl
     have hx4_4 : wr.cell? ⟨go4, (x2_1 : Int).toNat * 6 + 4, none⟩ = some (.int .i64 ((rd_T53 x0_1 x2_1).f2)) := hcc4 4 _ rfl
     have hx4_5 : wr.cell? ⟨go4, (x2_1 : Int).toNat * 6 + 5, none⟩ = some (.int .i32 ((rd_T53 x0_1 x2_1).f3)) := hcc4 5 _ rfl
     have hf4_0 : wr.frozen? ⟨go4, (x2_1 : Int).toNat * 6, none⟩ = false := hfr4 0
     have hf4_1 : wr.frozen? ⟨go4, (x2_1 : Int).toNat * 6 + 1, none⟩ = false := hfr4 1
     have hf4_2 : wr.frozen? ⟨go4, (x2_1 : Int).toNat * 6 + 2, none⟩ = false := hfr4 2
     have hf4_3 : wr.frozen? ⟨go4, (x2_1 : Int).toNat * 6 + 3, none⟩ = false := hfr4 3
     have hf4_4 : wr.frozen? ⟨go4, (x2_1 : Int).toNat * 6 + 4, none⟩ = false := hfr4 4
     have hf4_5 : wr.frozen? ⟨go4, (x2_1 : Int).toNat * 6 + 5, none⟩ = false := hfr4 5
     clear hcl4 hcc4 hfr4 hM4
     replace p4 := eq_true p4
     replace q4 := eq_true q4
     have HX7 := Aside0.mk (show Kd.R k53 53 wr w0.heap.size (fun k_ => (P0_ k_ ∨ w.heap.size ≤ k_)) (.slice (some ⟨go4, 0, none⟩) x0_1.length co6) x0_1 from (by (with_reducible repeat (first | apply Kd.R_alloc | apply Kd.R_drewN | apply Kd.R_drew)); exact HO_0.out))
     obtain ⟨ce7, hcl7, hM7, hcc7, hfr7⟩ := Kd.R_elem HX7.out z53 (x2_1 : Int) (of_decide_eq_true (by first | (with_reducible assumption) | assumption)) (by have h_ : (x2_1 : Int) < ((x0_1.length : Int) : Int) := of_decide_eq_true (by first | (with_reducible assumption) | assumption); first | exact h_ | (have e_ := (Kd.R_reads' HO_0.out).1; omega) | simpa using h_)
     obtain rfl := k53_openM hM7
     have HP7 := Kd.R_seg HX7.out (x2_1 : Int) (of_decide_eq_true (by first | (with_reducible assumption) | assumption)) (by have h_ : (x2_1 : Int) < ((x0_1.length : Int) : Int) := of_decide_eq_true (by first | (with_reducible assumption) | assumption); first | exact h_ | (have e_ := (Kd.R_reads' HO_0.out).1; omega) | simpa using h_) (seg := [.int .i64 (wrap64 (((rd_T53 x0_1 x2_1).f2) + 1))]) (j := 4) hcl7 hcc7 (show 5 ≤ 6 from by decide) (x' := (⟨(⟨(rd_T53 x0_1 x2_1).f0.f0, (rd_T53 x0_1 x2_1).f0.f1⟩ : S25), (⟨(rd_T53 x0_1 x2_1).f1.f0, (rd_T53 x0_1 x2_1).f1.f1⟩ : S25), wrap64 (((rd_T53 x0_1 x2_1).f2) + 1), (rd_T53 x0_1 x2_1).f3⟩ : S53)) (k53_mkM _ _ _ (⟨(⟨(rd_T53 x0_1 x2_1).f0.f0, (rd_T53 x0_1 x2_1).f0.f1⟩ : S25), (⟨(rd_T53 x0_1 x2_1).f1.f0, (rd_T53 x0_1 x2_1).f1.f1⟩ : S25), wrap64 (((rd_T53 x0_1 x2_1).f2) + 1), (rd_T53 x0_1 x2_1).f3⟩ : S53) ) (fun _ hk => hk)
     have hx7_4 := hcc7 4 _ rfl
     (try simp only [show (k53).sz = 6 from rfl, Nat.mul_one, Nat.add_zero] at hx7_4)
     have hf7_4 := hfr7 4
     (try simp only [show (k53).sz = 6 from rfl, Nat.mul_one, Nat.add_zero] at hf7_4)
     clear hcl7 hcc7 hfr7 hM7
     go_wp2_with (first | ((with_reducible refine gate_store (t := 3) (p := 16) rfl ?_); refine store_event (t := 3) (p := 16) (v := ?vo_w8) (w1 := (wr.setCell ⟨go4, (x2_1 : Int).toNat * 6 + 4, none⟩ (.int .i64 (wrap64 (((rd_T53 x0_1 x2_1).f2) + 1))))) ?hg ?ho ?hn ?hr ?_; (case ho => rfl); (case hg => rfl); (case hn => rfl); (case hr => first | (go_simp; done) | (go_simp; rfl)); intro w8 hw; have hg : wr.grownBy w8 (some go4) := (by rw [hw]; exact HP7.2); have hp_ : Kd.R k53 53 w8 w0.heap.size (fun k_ => (P0_ k_ ∨ w.heap.size ≤ k_)) (.slice (some ⟨go4, 0, none⟩) x0_1.length co6) y273 := (by rw [hw, Ny273.out]; exact HP7.1); clear HP7; have n0_ := Aside0.mk (hp_); have n1_ := Aside0.mk ((by rw [hw]; exact below_set (HB.out) GB4.out : Below w0.heap.size w0 w8)); have n2_ := Aside0.mk (Kept.of_grown (S := (fun k_ => P0_ k_)) hg (by repeat (first | (with_reducible first | exact HK.out | apply Kept.alloc | apply Kept.drewN | apply Kept.drew) | exact HK.out)) (fun k_ e_ => (HO_0.out.1 k_ e_))); clear HO_0; clear HB; clear HK; have HO_0 := n0_; have HB := n1_; have HK := n2_; clear n0_ n1_ n2_; clear hg hw hp_; have p5 : 0 ≤ (x2_1 : Int) := of_decide_eq_true (by first | (with_reducible assumption) | assumption); have q5 : (x2_1 : Int) < ((x0_1.length : Int) : Int) := of_decide_eq_true (by first | (with_reducible assumption) | assumption); obtain ⟨ce5, hcl5, hM5, hcc5, hfr5⟩ := Kd.R_elem HO_0.out z53 (x2_1 : Int) p5 q5; obtain rfl := k53_openM hM5; have hx5_0 : w8.cell? ⟨go4, (x2_1 : Int).toNat * 6, none⟩ = some (.int .i64 ((rd_T53 y273 x2_1).f0.f0)) := hcc5 0 _ rfl; have hx5_1 : w8.cell? ⟨go4, (x2_1 : Int).toNat * 6 + 1, none⟩ = some (.int .i64 ((rd_T53 y273 x2_1).f0.f1)) := hcc5 1 _ rfl; have hx5_2 : w8.cell? ⟨go4, (x2_1 : Int).toNat * 6 + 2, none⟩ = some (.int .i64 ((rd_T53 y273 x2_1).f1.f0)) := hcc5 2 _ rfl; have hx5_3 : w8.cell? ⟨go4, (x2_1 : Int).toNat * 6 + 3, none⟩ = some (.int .i64 ((rd_T53 y273 x2_1).f1.f1)) := hcc5 3 _ rfl; have hx5_4 : w8.cell? ⟨go4, (x2_1 : Int).toNat * 6 + 4, none⟩ = some (.int .i64 ((rd_T53 y273 x2_1).f2)) := hcc5 4 _ rfl; have hx5_5 : w8.cell? ⟨go4, (x2_1 : Int).toNat * 6 + 5, none⟩ = some (.int .i32 ((rd_T53 y273 x2_1).f3)) := hcc5 5 _ rfl; have hf5_0 : w8.frozen? ⟨go4, (x2_1 : Int).toNat * 6, none⟩ = false := hfr5 0; have hf5_1 : w8.frozen? ⟨go4, (x2_1 : Int).toNat * 6 + 1, none⟩ = false := hfr5 1; have hf5_2 : w8.frozen? ⟨go4, (x2_1 : Int).toNat * 6 + 2, none⟩ = false := hfr5 2; have hf5_3 : w8.frozen? ⟨go4, (x2_1 : Int).toNat * 6 + 3, none⟩ = false := hfr5 3; have hf5_4 : w8.frozen? ⟨go4, (x2_1 : Int).toNat * 6 + 4, none⟩ = false := hfr5 4; have hf5_5 : w8.frozen? ⟨go4, (x2_1 : Int).toNat * 6 + 5, none⟩ = false := hfr5 5; clear hcl5 hcc5 hfr5 hM5; replace p5 := eq_true p5; replace q5 := eq_true q5; have HX9 := Aside0.mk (show Kd.R k53 53 w8 w0.heap.size (fun k_ => (P0_ k_ ∨ w.heap.size ≤ k_)) (.slice (some ⟨go4, 0, none⟩) x0_1.length co6) y273 from (by (with_reducible repeat (first | apply Kd.R_alloc | apply Kd.R_drewN | apply Kd.R_drew)); exact HO_0.out)); obtain ⟨ce9, hcl9, hM9, hcc9, hfr9⟩ := Kd.R_elem HX9.out z53 (x2_1 : Int) (of_decide_eq_true (by first | (with_reducible assumption) | assumption)) (by have h_ : (x2_1 : Int) < ((x0_1.length : Int) : Int) := of_decide_eq_true (by first | (with_reducible assumption) | assumption); first | exact h_ | (have e_ := (Kd.R_reads' HO_0.out).1; omega) | simpa using h_); obtain rfl := k53_openM hM9; have HP9 := Kd.R_seg HX9.out (x2_1 : Int) (of_decide_eq_true (by first | (with_reducible assumption) | assumption)) (by have h_ : (x2_1 : Int) < ((x0_1.length : Int) : Int) := of_decide_eq_true (by first | (with_reducible assumption) | assumption); first | exact h_ | (have e_ := (Kd.R_reads' HO_0.out).1; omega) | simpa using h_) (seg := [.int .i32 88]) (j := 5) hcl9 hcc9 (show 6 ≤ 6 from by decide) (x' := (⟨(⟨(rd_T53 y273 x2_1).f0.f0, (rd_T53 y273 x2_1).f0.f1⟩ : S25), (⟨(rd_T53 y273 x2_1).f1.f0, (rd_T53 y273 x2_1).f1.f1⟩ : S25), (rd_T53 y273 x2_1).f2, 88⟩ : S53)) (k53_mkM _ _ _ (⟨(⟨(rd_T53 y273 x2_1).f0.f0, (rd_T53 y273 x2_1).f0.f1⟩ : S25), (⟨(rd_T53 y273 x2_1).f1.f0, (rd_T53 y273 x2_1).f1.f1⟩ : S25), (rd_T53 y273 x2_1).f2, 88⟩ : S53) ) (fun _ hk => hk); have hx9_5 := hcc9 5 _ rfl; (try simp only [show (k53).sz = 6 from rfl, Nat.mul_one, Nat.add_zero] at hx9_5); have hf9_5 := hfr9 5; (try simp only [show (k53).sz = 6 from rfl, Nat.mul_one, Nat.add_zero] at hf9_5); clear hcl9 hcc9 hfr9 hM9) | ((with_reducible refine gate_store (t := 21) (p := 20) rfl ?_); refine store_event (t := 21) (p := 20) (v := ?vo_w10) (w1 := (w8.setCell ⟨go4, (x2_1 : Int).toNat * 6 + 5, none⟩ (.int .i32 88))) ?hg ?ho ?hn ?hr ?_; (case ho => rfl); (case hg => rfl); (case hn => rfl); (case hr => first | (go_simp; done) | (go_simp; rfl)); intro w10 hw; have hg : w8.grownBy w10 (some go4) := (by rw [hw]; exact HP9.2); have hp_ : Kd.R k53 53 w10 w0.heap.size (fun k_ => (P0_ k_ ∨ w.heap.size ≤ k_)) (.slice (some ⟨go4, 0, none⟩) x0_1.length co6) y274 := (by rw [hw, Ny274.out]; exact HP9.1); clear HP9; have n0_ := Aside0.mk (hp_); have n1_ := Aside0.mk ((by rw [hw]; exact below_set (HB.out) GB4.out : Below w0.heap.size w0 w10)); have n2_ := Aside0.mk (Kept.of_grown (S := (fun k_ => P0_ k_)) hg (by repeat (first | (with_reducible first | exact HK.out | apply Kept.alloc | apply Kept.drewN | apply Kept.drew) | exact HK.out)) (fun k_ e_ => (HO_0.out.1 k_ e_))); clear HO_0; clear HB; clear HK; have HO_0 := n0_; have HB := n1_; have HK := n2_; clear n0_ n1_ n2_; clear hg hw hp_))
     go_roundg k1
     case measure => have := HK1.out; omega
     case rel => exact ⟨(y274), (wrap64 (x2_1 + 1)), (by first | rfl | (simp; done) | (simp [*]; done)), H', ⟨by have := HK1.out; omega⟩, ⟨by (with_reducible repeat (first | apply Kd.R_alloc | apply Kd.R_drewN | apply Kd.R_drew)); exact HO_0.out⟩, ⟨by repeat (first | (with_reducible first | exact HK.out | apply Kept.alloc | apply Kept.drewN | apply Kept.drew) | exact HK.out)⟩, ⟨by repeat (first | (with_reducible first | exact HB.out | apply below_alloc | apply pw_below_drewN | apply below_drew1) | exact HB.out)⟩⟩
    ·
     rw [if_neg c3] at H
     exact absurd H (by simp)
   ·
    rw [if_neg c2] at H
    have c2b0 : decide (x2_1 < (x0_1.length : Int)) = false := decide_eq_false c2
    clear c2
    obtain rfl := Option.some.inj H
    obtain ⟨Ao11, co11, eo11⟩ := Kd.R_slice HO_0.out
    subst eo11
    go_wp2
    first | go_end0 | ((try simp only [Exit.inBlock, Exit.then]); refine bodyPost_ret (results_none rfl _ _ _) rfl ?_)
    exact ⟨by first | rfl | (simp [errW_none, errW_some] <;> rfl) | (simp [*, errW_none, errW_some] <;> rfl), by (with_reducible repeat (first | apply Kd.R_alloc | apply Kd.R_drewN | apply Kd.R_drew)); exact HO_0.out, by repeat (first | (with_reducible first | exact HB.out | apply below_alloc | apply pw_below_drewN | apply below_drew1) | exact HB.out), by repeat (first | (with_reducible first | exact HK.out | apply Kept.alloc | apply Kept.drewN | apply Kept.drew) | exact HK.out)⟩
end Go.Proofs.YtmbndijbpgobeaaGreat.PWalk
end
