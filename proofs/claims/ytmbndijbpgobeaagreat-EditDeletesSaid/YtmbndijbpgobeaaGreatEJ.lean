/-
  The law EditDeletes of layer 15 holds for all states, indices and numbers. Part 10 of 12.
-/
import Derived.Test.YtmbndijbpgobeaaGreatEI
import Derived.Deep.Cut
section
namespace Go.Proofs.YtmbndijbpgobeaaGreat.PWalk
open Go.RowKit Go.Proofs.YtmbndijbpgobeaaGreatW.PrintWords Go.Proofs.YtmbndijbpgobeaaGreatW.PrintLast Go.Proofs.YtmbndijbpgobeaaGreatW.PrintMore
attribute [local go_sem] max2_int max_two
set_option linter.unusedVariables false
set_option linter.unusedSimpArgs false
attribute [local go_sem high] eqA25
def redpencilref14_IsRune.f (a0 : Int) : Option (Bool) := if a0 ≥ 1 then (if a0 ≤ 1114111 then (if a0 < 55296 then (some true) else (some (decide (a0 > 57343)))) else (some false)) else (some false)
set_option maxHeartbeats 8000000 in
set_option maxRecDepth 100000 in
theorem redpencilref14_IsRune.calls (a0 : Int) (r : Bool) (w : World) (h : redpencilref14_IsRune.f a0 = some r) :
  Calls Tryz.prog 31 #[.int .i32 a0] w fun e w' => e = .returned (.bool r) ∧ Drawn0 w w' := by
 have H : (if a0 ≥ 1 then (if a0 ≤ 1114111 then (if a0 < 55296 then (some true) else (some (decide (a0 > 57343)))) else (some false)) else (some false)) = some r := h
 clear h
 by_cases c2 : a0 ≥ 1
 ·
  rw [if_pos c2] at H
  have c2b0 : decide (1 ≤ a0) = true := decide_eq_true c2
  clear c2
  by_cases c3 : a0 ≤ 1114111
  ·
   rw [if_pos c3] at H
   have c3b0 : decide (a0 ≤ 1114111) = true := decide_eq_true c3
   clear c3
   by_cases c4 : a0 < 55296
   ·
    rw [if_pos c4] at H
    have c4b0 : decide (a0 < 55296) = true := decide_eq_true c4
    clear c4
    obtain rfl := Option.some.inj H
    go_enter Tryz.func31, Tryz.ntmps31
    go_wp2
    go_ret
    exact ⟨by first | rfl | (simp; done) | (simp [*]; done), by repeat (first | exact Drawn0.refl _ | apply Drawn0.step)⟩
   ·
    rw [if_neg c4] at H
    have c4b0 : decide (a0 < 55296) = false := decide_eq_false c4
    clear c4
    obtain rfl := Option.some.inj H
    go_enter Tryz.func31, Tryz.ntmps31
    go_wp2
    go_ret
    exact ⟨by first | rfl | (simp; done) | (simp [*]; done), by repeat (first | exact Drawn0.refl _ | apply Drawn0.step)⟩
  ·
   rw [if_neg c3] at H
   have c3b0 : decide (a0 ≤ 1114111) = false := decide_eq_false c3
   clear c3
   obtain rfl := Option.some.inj H
   go_enter Tryz.func31, Tryz.ntmps31
   go_wp2
   go_ret
   exact ⟨by first | rfl | (simp; done) | (simp [*]; done), by repeat (first | exact Drawn0.refl _ | apply Drawn0.step)⟩
 ·
  rw [if_neg c2] at H
  have c2b0 : decide (1 ≤ a0) = false := decide_eq_false c2
  clear c2
  obtain rfl := Option.some.inj H
  go_enter Tryz.func31, Tryz.ntmps31
  go_wp2
  go_ret
  exact ⟨by first | rfl | (simp; done) | (simp [*]; done), by repeat (first | exact Drawn0.refl _ | apply Drawn0.step)⟩
def redpencilref14_IsDot.f (a0_0 : Int) (a0_1 : Int) : Option (Bool) := if a0_0 ≥ 1 then (if a0_0 ≤ 64 then (if a0_1 ≥ 1 then (some (decide (a0_1 ≤ 4294967295))) else (some false)) else (some false)) else (some false)
set_option maxHeartbeats 8000000 in
set_option maxRecDepth 100000 in
theorem redpencilref14_IsDot.calls (a0_0 : Int) (a0_1 : Int) (r : Bool) (w : World) (h : redpencilref14_IsDot.f a0_0 a0_1 = some r) :
  Calls Tryz.prog 37 #[.agg #[.int .i64 a0_0, .int .i64 a0_1]] w fun e w' => e = .returned (.bool r) ∧ Below w.heap.size w w' := by
 have hu25 := Tryz.underlying25
 have HB := Aside0.mk (Below.refl w.heap.size w)
 have H : (if a0_0 ≥ 1 then (if a0_0 ≤ 64 then (if a0_1 ≥ 1 then (some (decide (a0_1 ≤ 4294967295))) else (some false)) else (some false)) else (some false)) = some r := h
 clear h
 by_cases c2 : a0_0 ≥ 1
 ·
  rw [if_pos c2] at H
  have c2b0 : decide (1 ≤ a0_0) = true := decide_eq_true c2
  clear c2
  by_cases c3 : a0_0 ≤ 64
  ·
   rw [if_pos c3] at H
   have c3b0 : decide (a0_0 ≤ 64) = true := decide_eq_true c3
   clear c3
   by_cases c4 : a0_1 ≥ 1
   ·
    rw [if_pos c4] at H
    have c4b0 : decide (1 ≤ a0_1) = true := decide_eq_true c4
    clear c4
    obtain rfl := Option.some.inj H
    go_enter Tryz.func37, Tryz.ntmps37
    go_wp2_with (first | ((with_reducible refine gate_dst (N := 1) rfl ?_); refine box_event ?hg (N := 1) ?hd (cs := #[.int .i64 a0_0, .int .i64 a0_1]) (t := 25) ?hr ?_; (case hd => rfl); (case hg => rfl); (case hr => first | (go_simp; done) | (go_simp; rfl)); intro gb240 hg w5 hbox hb; have n0_ := Aside0.mk (below_step (by repeat (first | (with_reducible first | exact HB.out | apply below_alloc | apply pw_below_drewN | apply below_drew1) | exact HB.out)) hb); have n1_ := Aside0.mk (hbox); have n2_ := Aside0.mk ((by rw [hg]; exact (below_size (by repeat (first | (with_reducible first | exact HB.out | apply below_alloc | apply pw_below_drewN | apply below_drew1) | exact HB.out))) : w.heap.size ≤ gb240)); have n3_ := Aside0.mk ((by rw [hg]; exact (below_size (by repeat (first | (with_reducible first | exact HB.out | apply below_alloc | apply pw_below_drewN | apply below_drew1) | exact HB.out))) : w.heap.size ≤ gb240)); clear HB; have HB := n0_; have BK240 := n1_; have GW240 := n2_; have GE240 := n3_; clear n0_ n1_ n2_ n3_; clear hb hbox hg; have hcz6_0 : w5.cell? ⟨gb240, 0, none⟩ = some (.int .i64 a0_0) := (blk_cell BK240.out 0).trans rfl; have hcz6_1 : w5.cell? ⟨gb240, 1, none⟩ = some (.int .i64 a0_1) := (blk_cell BK240.out 1).trans rfl; have hfz6_0 := blk_frozen BK240.out 0; have hfz6_1 := blk_frozen BK240.out 1))
    go_ret
    exact ⟨by first | rfl | (simp [errW_none, errW_some] <;> rfl) | (simp [*, errW_none, errW_some] <;> rfl), by repeat (first | (with_reducible first | exact HB.out | apply below_alloc | apply pw_below_drewN | apply below_drew1 | refine below_set ?_ GE240.out) | exact HB.out)⟩
   ·
    rw [if_neg c4] at H
    have c4b0 : decide (1 ≤ a0_1) = false := decide_eq_false c4
    clear c4
    obtain rfl := Option.some.inj H
    go_enter Tryz.func37, Tryz.ntmps37
    go_wp2_with (first | ((with_reducible refine gate_dst (N := 1) rfl ?_); refine box_event ?hg (N := 1) ?hd (cs := #[.int .i64 a0_0, .int .i64 a0_1]) (t := 25) ?hr ?_; (case hd => rfl); (case hg => rfl); (case hr => first | (go_simp; done) | (go_simp; rfl)); intro gb240 hg w7 hbox hb; have n0_ := Aside0.mk (below_step (by repeat (first | (with_reducible first | exact HB.out | apply below_alloc | apply pw_below_drewN | apply below_drew1) | exact HB.out)) hb); have n1_ := Aside0.mk (hbox); have n2_ := Aside0.mk ((by rw [hg]; exact (below_size (by repeat (first | (with_reducible first | exact HB.out | apply below_alloc | apply pw_below_drewN | apply below_drew1) | exact HB.out))) : w.heap.size ≤ gb240)); have n3_ := Aside0.mk ((by rw [hg]; exact (below_size (by repeat (first | (with_reducible first | exact HB.out | apply below_alloc | apply pw_below_drewN | apply below_drew1) | exact HB.out))) : w.heap.size ≤ gb240)); clear HB; have HB := n0_; have BK240 := n1_; have GW240 := n2_; have GE240 := n3_; clear n0_ n1_ n2_ n3_; clear hb hbox hg; have hcz8_0 : w7.cell? ⟨gb240, 0, none⟩ = some (.int .i64 a0_0) := (blk_cell BK240.out 0).trans rfl; have hcz8_1 : w7.cell? ⟨gb240, 1, none⟩ = some (.int .i64 a0_1) := (blk_cell BK240.out 1).trans rfl; have hfz8_0 := blk_frozen BK240.out 0; have hfz8_1 := blk_frozen BK240.out 1))
    go_ret
    exact ⟨by first | rfl | (simp [errW_none, errW_some] <;> rfl) | (simp [*, errW_none, errW_some] <;> rfl), by repeat (first | (with_reducible first | exact HB.out | apply below_alloc | apply pw_below_drewN | apply below_drew1 | refine below_set ?_ GE240.out) | exact HB.out)⟩
  ·
   rw [if_neg c3] at H
   have c3b0 : decide (a0_0 ≤ 64) = false := decide_eq_false c3
   clear c3
   obtain rfl := Option.some.inj H
   go_enter Tryz.func37, Tryz.ntmps37
   go_wp2_with (first | ((with_reducible refine gate_dst (N := 1) rfl ?_); refine box_event ?hg (N := 1) ?hd (cs := #[.int .i64 a0_0, .int .i64 a0_1]) (t := 25) ?hr ?_; (case hd => rfl); (case hg => rfl); (case hr => first | (go_simp; done) | (go_simp; rfl)); intro gb240 hg w9 hbox hb; have n0_ := Aside0.mk (below_step (by repeat (first | (with_reducible first | exact HB.out | apply below_alloc | apply pw_below_drewN | apply below_drew1) | exact HB.out)) hb); have n1_ := Aside0.mk (hbox); have n2_ := Aside0.mk ((by rw [hg]; exact (below_size (by repeat (first | (with_reducible first | exact HB.out | apply below_alloc | apply pw_below_drewN | apply below_drew1) | exact HB.out))) : w.heap.size ≤ gb240)); have n3_ := Aside0.mk ((by rw [hg]; exact (below_size (by repeat (first | (with_reducible first | exact HB.out | apply below_alloc | apply pw_below_drewN | apply below_drew1) | exact HB.out))) : w.heap.size ≤ gb240)); clear HB; have HB := n0_; have BK240 := n1_; have GW240 := n2_; have GE240 := n3_; clear n0_ n1_ n2_ n3_; clear hb hbox hg; have hcz10_0 : w9.cell? ⟨gb240, 0, none⟩ = some (.int .i64 a0_0) := (blk_cell BK240.out 0).trans rfl; have hcz10_1 : w9.cell? ⟨gb240, 1, none⟩ = some (.int .i64 a0_1) := (blk_cell BK240.out 1).trans rfl; have hfz10_0 := blk_frozen BK240.out 0; have hfz10_1 := blk_frozen BK240.out 1))
   go_ret
   exact ⟨by first | rfl | (simp [errW_none, errW_some] <;> rfl) | (simp [*, errW_none, errW_some] <;> rfl), by repeat (first | (with_reducible first | exact HB.out | apply below_alloc | apply pw_below_drewN | apply below_drew1 | refine below_set ?_ GE240.out) | exact HB.out)⟩
 ·
  rw [if_neg c2] at H
  have c2b0 : decide (1 ≤ a0_0) = false := decide_eq_false c2
  clear c2
  obtain rfl := Option.some.inj H
  go_enter Tryz.func37, Tryz.ntmps37
  go_wp2_with (first | ((with_reducible refine gate_dst (N := 1) rfl ?_); refine box_event ?hg (N := 1) ?hd (cs := #[.int .i64 a0_0, .int .i64 a0_1]) (t := 25) ?hr ?_; (case hd => rfl); (case hg => rfl); (case hr => first | (go_simp; done) | (go_simp; rfl)); intro gb240 hg w11 hbox hb; have n0_ := Aside0.mk (below_step (by repeat (first | (with_reducible first | exact HB.out | apply below_alloc | apply pw_below_drewN | apply below_drew1) | exact HB.out)) hb); have n1_ := Aside0.mk (hbox); have n2_ := Aside0.mk ((by rw [hg]; exact (below_size (by repeat (first | (with_reducible first | exact HB.out | apply below_alloc | apply pw_below_drewN | apply below_drew1) | exact HB.out))) : w.heap.size ≤ gb240)); have n3_ := Aside0.mk ((by rw [hg]; exact (below_size (by repeat (first | (with_reducible first | exact HB.out | apply below_alloc | apply pw_below_drewN | apply below_drew1) | exact HB.out))) : w.heap.size ≤ gb240)); clear HB; have HB := n0_; have BK240 := n1_; have GW240 := n2_; have GE240 := n3_; clear n0_ n1_ n2_ n3_; clear hb hbox hg; have hcz12_0 : w11.cell? ⟨gb240, 0, none⟩ = some (.int .i64 a0_0) := (blk_cell BK240.out 0).trans rfl; have hcz12_1 : w11.cell? ⟨gb240, 1, none⟩ = some (.int .i64 a0_1) := (blk_cell BK240.out 1).trans rfl; have hfz12_0 := blk_frozen BK240.out 0; have hfz12_1 := blk_frozen BK240.out 1))
  go_ret
  exact ⟨by first | rfl | (simp [errW_none, errW_some] <;> rfl) | (simp [*, errW_none, errW_some] <;> rfl), by repeat (first | (with_reducible first | exact HB.out | apply below_alloc | apply pw_below_drewN | apply below_drew1 | refine below_set ?_ GE240.out) | exact HB.out)⟩
end Go.Proofs.YtmbndijbpgobeaaGreat.PWalk
end
section
namespace Go.Proofs.YtmbndijbpgobeaaGreat.PWalk
open Go.RowKit Go.Proofs.YtmbndijbpgobeaaGreatW.PrintWords Go.Proofs.YtmbndijbpgobeaaGreatW.PrintLast Go.Proofs.YtmbndijbpgobeaaGreatW.PrintMore
set_option linter.unusedVariables false
set_option linter.unusedSimpArgs false
open Go.Shelf
attribute [local go_sem] Oper.semAt_some
theorem jdot_is (d : Dot) : redpencilref14_IsDot.f d.f0 d.f1 = some (dotOk d) := by
 unfold redpencilref14_IsDot.f dotOk
 by_cases h0 : d.f0 ≥ 1 <;> by_cases h1 : d.f0 ≤ 64 <;> by_cases h2 : d.f1 ≥ 1 <;> by_cases h3 : d.f1 ≤ 4294967295 <;> simp [h0, h1, h2, h3] <;> (try omega)
theorem jrune_ok (r : Int) : redpencilref14_IsRune.f r = some (runeOk r) := by
 unfold redpencilref14_IsRune.f runeOk
 by_cases h1 : r ≥ 1 <;> by_cases h2 : r ≤ 1114111 <;> by_cases h3 : r < 55296 <;> by_cases h4 : r > 57343 <;> simp [h1, h2, h3, h4] <;> omega
theorem nodeOk_is (x : Node) : nodeOk x = (dotOk x.f0 && (((x.f1.f0 == 0 && (x.f1.f1 == 0)) || dotOk x.f1) && (!(x.f1.f0 == x.f0.f0 && (x.f1.f1 == x.f0.f1)) && (decide (x.f2 ≥ 1) && (decide (x.f2 ≤ 4611686018427387904) && ((x.f3 == 0) || runeOk x.f3)))))) := by
 have e : ((x.f1.f0 == x.f0.f0 && (x.f1.f1 == x.f0.f1)) = true) ↔ x.f1 = x.f0 := by rw [Dot.ext_iff']; simp
 have e2 : ((x.f1.f0 == 0 && (x.f1.f1 == 0)) = true) ↔ dotRoot x.f1 = true := by unfold dotRoot; simp
 unfold nodeOk
 rw [Bool.eq_iff_iff]
 simp only [decide_eq_true_eq, Bool.and_eq_true, Bool.or_eq_true, Bool.not_eq_true', Bool.eq_false_iff, ne_eq, e, beq_iff_eq, ge_iff_le]
 have e2' : (x.f1.f0 = 0 ∧ x.f1.f1 = 0) ↔ dotRoot x.f1 = true := by unfold dotRoot; simp
 rw [e2']
section
attribute [local go_sem high] eqA25
set_option maxHeartbeats 4000000 in
set_option maxRecDepth 100000 in
theorem isNode_call (x : Node) (w : World) : Calls Tryz.prog 57 #[vNode x] w fun e w' => e = .returned (.bool (nodeOk x)) ∧ Below w.heap.size w w' := by
 have HX : Aside0 ((w.alloc (boxN x)).heap[w.heap.size]? = some (boxN x)) := ⟨blk_new w _⟩
 have HB : Aside0 (Below w.heap.size w (w.alloc (boxN x))) := ⟨below_alloc (Below.refl _ _) _⟩
 have HRES := Aside0.mk (nodeOk_is x)
 obtain ⟨b0, H0⟩ : ∃ b, Aside0 (dotOk x.f0 = b) := ⟨_, ⟨rfl⟩⟩
 obtain ⟨b1, H1⟩ : ∃ b, Aside0 ((x.f1.f0 == 0 && (x.f1.f1 == 0)) = b) := ⟨_, ⟨rfl⟩⟩
 obtain ⟨b2, H2⟩ : ∃ b, Aside0 (dotOk x.f1 = b) := ⟨_, ⟨rfl⟩⟩
 obtain ⟨b3, H3⟩ : ∃ b, Aside0 ((x.f1.f0 == x.f0.f0 && (x.f1.f1 == x.f0.f1)) = b) := ⟨_, ⟨rfl⟩⟩
 obtain ⟨b4, H4⟩ : ∃ b, Aside0 (decide (x.f2 ≥ 1) = b) := ⟨_, ⟨rfl⟩⟩
 obtain ⟨b5, H5⟩ : ∃ b, Aside0 (decide (x.f2 ≤ 4611686018427387904) = b) := ⟨_, ⟨rfl⟩⟩
 obtain ⟨b6, H6⟩ : ∃ b, Aside0 ((x.f3 == 0) = b) := ⟨_, ⟨rfl⟩⟩
 obtain ⟨b7, H7⟩ : ∃ b, Aside0 (runeOk x.f3 = b) := ⟨_, ⟨rfl⟩⟩
 rw [H0.out, H1.out, H2.out, H3.out, H4.out, H5.out, H6.out, H7.out] at HRES
 rw [HRES.out]
 go_enter Tryz.func57, Tryz.ntmps57
 obtain ⟨x0, x1, x2, x3, x4, x5⟩ := box_six HX.out
 go_wp2_with fail
 refine (redpencilref14_IsDot.calls _ _ b0 _ (by rw [jdot_is, H0.out])).mono ?_
 rintro e V ⟨rfl, hb⟩
 have HX := Aside0.mk (blk_keep HX.out hb)
 have HB := Aside0.mk (below_more HB.out hb)
 clear hb x0 x1 x2 x3 x4 x5
 obtain ⟨x0, x1, x2, x3, x4, x5⟩ := box_six HX.out
 cases b0
 case false => go_wp2; go_ret; exact ⟨rfl, HB.out⟩
 have h1 := H1.out
 cases b1
 case' false =>
  go_wp2_with fail
  refine (redpencilref14_IsDot.calls _ _ b2 _ (by rw [jdot_is, H2.out])).mono ?_
  rintro e V ⟨rfl, hb⟩
  have HX := Aside0.mk (blk_keep HX.out hb)
  have HB := Aside0.mk (below_more HB.out hb)
  clear hb x0 x1 x2 x3 x4 x5
  obtain ⟨x0, x1, x2, x3, x4, x5⟩ := box_six HX.out
  cases b2
  case false => go_wp2; go_ret; exact ⟨rfl, HB.out⟩
 all_goals
  have h3 := H3.out
  cases b3
  case true => go_wp2; go_ret; exact ⟨rfl, HB.out⟩
  have h4 := H4.out
  cases b4
  case false =>
   have h4' : decide (1 ≤ x.f2) = false := h4
   go_wp2; go_ret; exact ⟨rfl, HB.out⟩
  have h4' : decide (1 ≤ x.f2) = true := h4
  have h5 := H5.out
  cases b5
  case false => go_wp2; go_ret; exact ⟨rfl, HB.out⟩
  have h6 := H6.out
  cases b6
  case true => go_wp2; go_ret; exact ⟨rfl, HB.out⟩
  go_wp2_with fail
  refine (redpencilref14_IsRune.calls _ b7 _ (by rw [jrune_ok, H7.out])).mono ?_
  rintro e V ⟨rfl, hb⟩
  have HB := Aside0.mk (below_more HB.out hb.below)
  clear hb x0 x1 x2 x3 x4 x5
  cases b7 <;> (go_wp2; go_ret; exact ⟨rfl, HB.out⟩)
end
end Go.Proofs.YtmbndijbpgobeaaGreat.PWalk
end
section
namespace Go.Proofs.YtmbndijbpgobeaaGreat.PWalk
open Go.RowKit Go.Proofs.YtmbndijbpgobeaaGreatW.PrintWords Go.Proofs.YtmbndijbpgobeaaGreatW.PrintLast Go.Proofs.YtmbndijbpgobeaaGreatW.PrintMore
set_option linter.unusedVariables false
set_option linter.unusedSimpArgs false
open Go.Shelf
attribute [local go_sem] Oper.semAt_some
theorem incB_append (l : List Dot) (a b : Dot) : incB (l ++ [a, b]) = (incB (l ++ [a]) && dotLt a b) := by
 induction l with
 | nil => simp [incB]
 | cons c l ih =>
  cases l with
  | nil => simp [incB]
  | cons e l =>
   simp only [List.cons_append] at ih ⊢
   rw [incB, incB, ih, Bool.and_assoc]
theorem incB_left (l m : List Dot) (h : incB (l ++ m) = true) : incB l = true := by
 induction l with
 | nil => rfl
 | cons c l ih =>
  cases l with
  | nil => rfl
  | cons e l =>
   simp only [List.cons_append] at ih h
   rw [incB, Bool.and_eq_true] at h ⊢
   exact ⟨h.1, ih h.2⟩
theorem storeOk_append (l m : List Node) (h : storeOk (l ++ m) = true) : storeOk l = true := by
 unfold storeOk at h ⊢
 rw [Bool.and_eq_true, List.map_append, List.all_append, Bool.and_eq_true] at h
 rw [Bool.and_eq_true]
 exact ⟨h.1.1, incB_left _ _ h.2⟩
theorem storeOk_take {l : List Node} {i : Nat} (h : storeOk (l.take i) = false) : storeOk l = false := by
 rw [Bool.eq_false_iff] at h ⊢
 intro hl
 exact h (storeOk_append (l.take i) (l.drop i) (by rwa [List.take_append_drop]))
theorem storeOk_first {l : List Node} {x : Node} (h : l[0]? = some x) : storeOk (l.take 1) = nodeOk x := by
 cases l with
 | nil => cases h
 | cons y l => cases h; simp [storeOk, incB]
theorem storeOk_next {l : List Node} {j : Nat} {y x : Node} (hy : l[j]? = some y) (hx : l[j + 1]? = some x) : storeOk (l.take (j + 2)) = (storeOk (l.take (j + 1)) && (nodeOk x && dotLt y.f0 x.f0)) := by
 have h1 : l.take (j + 1) = l.take j ++ [y] := by rw [List.take_succ_eq_append_getElem (List.getElem?_eq_some_iff.1 hy).1, (List.getElem?_eq_some_iff.1 hy).2]
 have h2 : l.take (j + 2) = l.take j ++ [y] ++ [x] := by rw [← h1, List.take_succ_eq_append_getElem (List.getElem?_eq_some_iff.1 hx).1, (List.getElem?_eq_some_iff.1 hx).2]
 rw [h2, h1]
 unfold storeOk
 simp only [List.all_append, List.map_append, List.map_cons, List.map_nil, List.append_assoc, List.cons_append, List.nil_append, incB_append]
 simp only [List.all_cons, List.all_nil, Bool.and_true]
 cases (List.take j l).all nodeOk <;> cases nodeOk y <;> cases nodeOk x <;> cases incB (List.map (·.f0) (List.take j l) ++ [y.f0]) <;> simp
theorem jstore_step {l : List Node} {i j : Nat} {x y : Node} (hx : l[i]? = some x) (hj : 0 < i → i = j + 1 ∧ l[j]? = some y) (h : storeOk (l.take i) = true) : storeOk (l.take (i + 1)) = (nodeOk x && !(decide (0 < i) && !dotLt y.f0 x.f0)) := by
 by_cases hi : 0 < i
 ·
  obtain ⟨rfl, hy⟩ := hj hi
  rw [storeOk_next hy hx, h, decide_eq_true hi]; simp
 ·
  obtain rfl : i = 0 := by omega
  rw [Nat.zero_add, storeOk_first hx]; simp
def redpencilref14_Store.f (l0 : List Node) : Option Bool := if l0.length ≤ 400000 then some (storeOk l0) else none
def st14Inv (W0 : World) (ad : Addr) (n c0 i' j : Nat) (x y : Node) (b q t : Bool) (z1 z2 z4 z5 z6 z7 z8 z9 z10 z11 z12 z13 z14 z15 z16 z17 z18 z19 z20 z21 z22 z23 z24 z25 z26 z27 z28 z29 z30 z31 z32 z33 z34 : Value) (L : Array Bool) (ac : Act) (V : World) : Prop := ∃ (l0 l1 l2 l3 l4 l5 l6 l7 l8 l9 l10 l11 l12 l13 l14 l15 l16 l17 l18 l19 l20 l21 l22 l23 l24 : Bool), L = #[l0, l1, l2, l3, l4, l5, l6, l7, l8, l9, l10, l11, l12, l13, l14, l15, l16, l17, l18, l19, l20, l21, l22, l23, l24] ∧ ac = { tmps := #[.slice (some ad) n c0, z1, z2, .int .i64 (i' : Int), z4, z5, z6, z7, z8, z9, selv l0 (.slice (some ad) n c0) (z10), selv l1 (.int .i64 (i' : Int)) (z11), selv l2 (.pointer (some (ad.add (i' * 6)))) (z12), selv l3 (vNode x) (z13), selv l4 (.bool b) (z14), selv l5 (.bool (!b)) (z15), selv l6 (.bool (!b)) (z16), selv l7 (selv b (.int .i64 (i' : Int)) undef) (z17), selv l8 (selv b (.bool q) undef) (z18), selv l9 (selv b (.bool q) undef) (z19), selv l10 (selv b (selv q (.slice (some ad) n c0) undef) undef) (z20), selv l11 (selv b (selv q (.int .i64 (i' : Int)) undef) undef) (z21), selv l12 (selv b (selv q (.int .i64 (j : Int)) undef) undef) (z22), selv l13 (selv b (selv q (.pointer (some (ad.add (j * 6)))) undef) undef) (z23), selv l14 (selv b (selv q (.pointer (some (ad.add (j * 6)))) undef) undef) (z24), selv l15 (selv b (selv q (vDot y.f0) undef) undef) (z25), selv l16 (selv b (selv q (.slice (some ad) n c0) undef) undef) (z26), selv l17 (selv b (selv q (.int .i64 (i' : Int)) undef) undef) (z27), selv l18 (selv b (selv q (.pointer (some (ad.add (i' * 6)))) undef) undef) (z28), selv l19 (selv b (selv q (.pointer (some (ad.add (i' * 6)))) undef) undef) (z29), selv l20 (selv b (selv q (vDot x.f0) undef) undef) (z30), selv l21 (selv b (selv q (.bool t) undef) undef) (z31), selv l22 (selv b (selv q (.bool (!t)) undef) undef) (z32), selv l23 (selv b (.bool (q && !t)) undef) (z33), selv l24 (.bool (!b || (q && !t))) (z34)], defers := [] } ∧ Aside0 (Below W0.heap.size W0 V)
set_option maxHeartbeats 4000000 in
set_option maxRecDepth 100000 in
theorem redpencilref14_Store.calls (A0 : Option Addr) (c0 : Nat) (l0 : List Node) (r : Bool) (w : World) (hr0 : Kd.C k53 w A0 l0.length l0) (hc0 : l0.length ≤ c0) (h : redpencilref14_Store.f l0 = some r) :
  Calls Tryz.prog 26 #[.slice A0 l0.length c0] w fun e w' => e = .returned (.bool r) ∧ Below w.heap.size w w' := by
 unfold redpencilref14_Store.f at h
 by_cases hl : l0.length ≤ 400000
 rotate_left
 ·
  rw [if_neg hl] at h; cases h
 rw [if_pos hl] at h
 have HRES := Aside0.mk (Option.some.inj h)
 have HR := Aside0.mk hr0
 obtain ⟨n, Hn⟩ : ∃ n, Aside0 (l0.length = n) := ⟨_, ⟨rfl⟩⟩
 have hn4 : n ≤ 400000 := by rw [← Hn.out]; exact hl
 rw [Hn.out]
 clear hl h hr0 hc0
 have hu := Tryz.underlying53
 have hu2 := Tryz.underlying25
 go_enter Tryz.func26, Tryz.ntmps26
 go_wp2
 go_loopw [3] (fun i wr => ∃ k : Nat, k ≤ n ∧ i = .int .i64 k ∧ Aside0 (storeOk (l0.take k) = true) ∧ Aside0 (Below w.heap.size w wr)) (fun i _ => n - (intOf i).toNat)
 case atStart => exact ⟨0, Nat.zero_le _, rfl, ⟨rfl⟩, ⟨Below.refl _ _⟩⟩
 case round =>
  obtain ⟨i', hk, rfl, HOK, HB⟩ := hrel
  by_cases hlt : i' < n
  ·
   obtain ⟨x, Hx⟩ : ∃ x, Aside0 (l0[i']? = some x) := ⟨_, ⟨List.getElem?_eq_getElem (by rw [Hn.out]; exact hlt)⟩⟩
   obtain ⟨j, y, HJ⟩ : ∃ j y, Aside0 (0 < i' → i' = j + 1 ∧ l0[j]? = some y) := by
    by_cases hi : 0 < i'
    ·
     exact ⟨i' - 1, l0[i' - 1]'(by rw [Hn.out]; omega), ⟨fun _ => ⟨by omega, List.getElem?_eq_getElem _⟩⟩⟩
    ·
     exact ⟨0, x, ⟨fun h => absurd h hi⟩⟩
   obtain ⟨b, Hb⟩ : ∃ b, Aside0 (nodeOk x = b) := ⟨_, ⟨rfl⟩⟩
   obtain ⟨q, Hq⟩ : ∃ q, Aside0 (decide (0 < i') = q) := ⟨_, ⟨rfl⟩⟩
   obtain ⟨t, Ht⟩ : ∃ t, Aside0 (dotLt y.f0 x.f0 = t) := ⟨_, ⟨rfl⟩⟩
   have HST := Aside0.mk (jstore_step Hx.out HJ.out HOK.out)
   rw [Hb.out, Hq.out, Ht.out] at HST
   have HKN : Aside0 (i' < n ∧ n ≤ 400000) := ⟨hlt, hn4⟩
   obtain ⟨ad, e, g0, g1, g2, g3, g4, g5⟩ := node_at HR.out HB.out i' x Hx.out
   subst e
   clear g0 g1 g2 g3 g4 g5
   go_wp2_with fail
   refine AnyOrder.wp_region (by kernel_rfl) (st14Inv wr.drew ad n c0 i' j x y b q t _ _ _ _ _ _ _ _ _ _ _ _ _ _ _ _ _ _ _ _ _ _ _ _ _ _ _ _ _ _ _ _ _) ⟨false, false, false, false, false, false, false, false, false, false, false, false, false, false, false, false, false, false, false, false, false, false, false, false, false, rfl, rfl, ⟨Below.refl _ _⟩⟩ ?step ?last
   case step =>
    rintro L ac V i ⟨l0, l1, l2, l3, l4, l5, l6, l7, l8, l9, l10, l11, l12, l13, l14, l15, l16, l17, l18, l19, l20, l21, l22, l23, l24, rfl, rfl, HF⟩ hi K hK
    rcases AnyOrder.up hi [0, 1, 5, 6, 2, 3, 4, 7, 9, 8, 10, 11, 14, 16, 17, 19, 22, 12, 13, 15, 18, 20, 21, 23, 24] rfl with rfl | rfl | rfl | rfl | rfl | rfl | rfl | rfl | rfl | rfl | rfl | rfl | rfl | rfl | rfl | rfl | rfl | rfl | rfl | rfl | rfl | rfl | rfl | rfl | rfl
    all_goals
     replace hi := AnyOrder.first hi rfl
     repeat (obtain ⟨ha, hi⟩ := hi; first | obtain rfl := ha | clear ha)
     clear hi
     try simp only [sel_true, selv_true] at hK ⊢
    iterate 4
     ·
      refine AnyOrder.wpOp_go rfl (by rfl) ?_
      go_wp2_with fail
      exact ⟨_, _, _, _, _, _, _, _, _, _, _, _, _, _, _, _, _, _, _, _, _, _, _, _, _, rfl, rfl, HF⟩
    ·
     have hxi := HKN.out
     refine AnyOrder.wpOp_go rfl (by rfl) ?_
     go_wp2_with fail
     exact ⟨_, _, _, _, _, _, _, _, _, _, _, _, _, _, _, _, _, _, _, _, _, _, _, _, _, rfl, rfl, HF⟩
    ·
     obtain ⟨ad', e, g0, g1, g2, g3, g4, g5⟩ := node_at HR.out (below_more HB.out (below_more (below_drew1 (Below.refl _ wr)) HF.out)) i' x Hx.out
     cases e
     refine AnyOrder.wpOp_go rfl (by rfl) ?_
     go_wp2_with fail
     exact ⟨_, _, _, _, _, _, _, _, _, _, _, _, _, _, _, _, _, _, _, _, _, _, _, _, _, rfl, rfl, HF⟩
    ·
     refine AnyOrder.wpOp_go rfl (by rfl) ?_
     go_wp2_with fail
     refine (isNode_call x V).mono ?_
     rintro e V' ⟨rfl, hb⟩
     rw [Hb.out]
     exact hK _ _ ⟨_, _, _, _, _, _, _, _, _, _, _, _, _, _, _, _, _, _, _, _, _, _, _, _, _, rfl, rfl, ⟨below_more HF.out hb⟩⟩
    iterate 2
     ·
      cases b
      ·
       refine AnyOrder.wpOp_out rfl (by rfl) ?_
       exact hK _ _ ⟨_, _, _, _, _, _, _, _, _, _, _, _, _, _, _, _, _, _, _, _, _, _, _, _, _, rfl, rfl, HF⟩
      ·
       refine AnyOrder.wpOp_go rfl (by rfl) ?_
       go_wp2_with fail
       exact ⟨_, _, _, _, _, _, _, _, _, _, _, _, _, _, _, _, _, _, _, _, _, _, _, _, _, rfl, rfl, HF⟩
    ·
     cases b
     ·
      refine AnyOrder.wpOp_out rfl (by rfl) ?_
      exact hK _ _ ⟨_, _, _, _, _, _, _, _, _, _, _, _, _, _, _, _, _, _, _, _, _, _, _, _, _, rfl, rfl, HF⟩
     ·
      have hq : decide ((i' : Int) > 0) = q := by rw [← Hq.out]; simp
      have hq2 : decide ((0 : Int) < (i' : Int)) = q := hq
      have hq3 := Hq.out
      refine AnyOrder.wpOp_go rfl (by rfl) ?_
      go_wp2_with fail
      exact ⟨_, _, _, _, _, _, _, _, _, _, _, _, _, _, _, _, _, _, _, _, _, _, _, _, _, rfl, rfl, HF⟩
    iterate 7
     ·
      cases b
      ·
       refine AnyOrder.wpOp_out rfl (by rfl) ?_
       exact hK _ _ ⟨_, _, _, _, _, _, _, _, _, _, _, _, _, _, _, _, _, _, _, _, _, _, _, _, _, rfl, rfl, HF⟩
      ·
       cases q
       ·
        refine AnyOrder.wpOp_out rfl (by rfl) ?_
        exact hK _ _ ⟨_, _, _, _, _, _, _, _, _, _, _, _, _, _, _, _, _, _, _, _, _, _, _, _, _, rfl, rfl, HF⟩
       ·
        refine AnyOrder.wpOp_go rfl (by rfl) ?_
        go_wp2_with fail
        exact ⟨_, _, _, _, _, _, _, _, _, _, _, _, _, _, _, _, _, _, _, _, _, _, _, _, _, rfl, rfl, HF⟩
    ·
     cases b
     ·
      refine AnyOrder.wpOp_out rfl (by rfl) ?_
      exact hK _ _ ⟨_, _, _, _, _, _, _, _, _, _, _, _, _, _, _, _, _, _, _, _, _, _, _, _, _, rfl, rfl, HF⟩
     ·
      cases q
      ·
       refine AnyOrder.wpOp_out rfl (by rfl) ?_
       exact hK _ _ ⟨_, _, _, _, _, _, _, _, _, _, _, _, _, _, _, _, _, _, _, _, _, _, _, _, _, rfl, rfl, HF⟩
      ·
       have HW : Aside0 ((i' : Int) - 1 = (j : Int)) := ⟨by have hj := (HJ.out (of_decide_eq_true Hq.out)).1; omega⟩
       refine AnyOrder.wpOp_go rfl (by rfl) ?_
       go_wp2_with fail
       rw [HW.out]
       exact ⟨_, _, _, _, _, _, _, _, _, _, _, _, _, _, _, _, _, _, _, _, _, _, _, _, _, rfl, rfl, HF⟩
    ·
     cases b
     ·
      refine AnyOrder.wpOp_out rfl (by rfl) ?_
      exact hK _ _ ⟨_, _, _, _, _, _, _, _, _, _, _, _, _, _, _, _, _, _, _, _, _, _, _, _, _, rfl, rfl, HF⟩
     ·
      cases q
      ·
       refine AnyOrder.wpOp_out rfl (by rfl) ?_
       exact hK _ _ ⟨_, _, _, _, _, _, _, _, _, _, _, _, _, _, _, _, _, _, _, _, _, _, _, _, _, rfl, rfl, HF⟩
      ·
       have hj : j < n ∧ n ≤ 400000 := by have := (HJ.out (of_decide_eq_true Hq.out)).1; have := HKN.out; omega
       refine AnyOrder.wpOp_go rfl (by rfl) ?_
       go_wp2_with fail
       exact ⟨_, _, _, _, _, _, _, _, _, _, _, _, _, _, _, _, _, _, _, _, _, _, _, _, _, rfl, rfl, HF⟩
    ·
     cases b
     ·
      refine AnyOrder.wpOp_out rfl (by rfl) ?_
      exact hK _ _ ⟨_, _, _, _, _, _, _, _, _, _, _, _, _, _, _, _, _, _, _, _, _, _, _, _, _, rfl, rfl, HF⟩
     ·
      cases q
      ·
       refine AnyOrder.wpOp_out rfl (by rfl) ?_
       exact hK _ _ ⟨_, _, _, _, _, _, _, _, _, _, _, _, _, _, _, _, _, _, _, _, _, _, _, _, _, rfl, rfl, HF⟩
      ·
       obtain ⟨ad', e, g0, g1, g2, g3, g4, g5⟩ := node_at HR.out (below_more HB.out (below_more (below_drew1 (Below.refl _ wr)) HF.out)) j y (HJ.out (of_decide_eq_true Hq.out)).2
       cases e
       refine AnyOrder.wpOp_go rfl (by rfl) ?_
       go_wp2_with fail
       exact ⟨_, _, _, _, _, _, _, _, _, _, _, _, _, _, _, _, _, _, _, _, _, _, _, _, _, rfl, rfl, HF⟩
    ·
     cases b
     ·
      refine AnyOrder.wpOp_out rfl (by rfl) ?_
      exact hK _ _ ⟨_, _, _, _, _, _, _, _, _, _, _, _, _, _, _, _, _, _, _, _, _, _, _, _, _, rfl, rfl, HF⟩
     ·
      cases q
      ·
       refine AnyOrder.wpOp_out rfl (by rfl) ?_
       exact hK _ _ ⟨_, _, _, _, _, _, _, _, _, _, _, _, _, _, _, _, _, _, _, _, _, _, _, _, _, rfl, rfl, HF⟩
      ·
       have hxi := HKN.out
       refine AnyOrder.wpOp_go rfl (by rfl) ?_
       go_wp2_with fail
       exact ⟨_, _, _, _, _, _, _, _, _, _, _, _, _, _, _, _, _, _, _, _, _, _, _, _, _, rfl, rfl, HF⟩
    ·
     cases b
     ·
      refine AnyOrder.wpOp_out rfl (by rfl) ?_
      exact hK _ _ ⟨_, _, _, _, _, _, _, _, _, _, _, _, _, _, _, _, _, _, _, _, _, _, _, _, _, rfl, rfl, HF⟩
     ·
      cases q
      ·
       refine AnyOrder.wpOp_out rfl (by rfl) ?_
       exact hK _ _ ⟨_, _, _, _, _, _, _, _, _, _, _, _, _, _, _, _, _, _, _, _, _, _, _, _, _, rfl, rfl, HF⟩
      ·
       obtain ⟨ad', e, g0, g1, g2, g3, g4, g5⟩ := node_at HR.out (below_more HB.out (below_more (below_drew1 (Below.refl _ wr)) HF.out)) i' x Hx.out
       cases e
       refine AnyOrder.wpOp_go rfl (by rfl) ?_
       go_wp2_with fail
       exact ⟨_, _, _, _, _, _, _, _, _, _, _, _, _, _, _, _, _, _, _, _, _, _, _, _, _, rfl, rfl, HF⟩
    ·
     cases b
     ·
      refine AnyOrder.wpOp_out rfl (by rfl) ?_
      exact hK _ _ ⟨_, _, _, _, _, _, _, _, _, _, _, _, _, _, _, _, _, _, _, _, _, _, _, _, _, rfl, rfl, HF⟩
     ·
      cases q
      ·
       refine AnyOrder.wpOp_out rfl (by rfl) ?_
       exact hK _ _ ⟨_, _, _, _, _, _, _, _, _, _, _, _, _, _, _, _, _, _, _, _, _, _, _, _, _, rfl, rfl, HF⟩
      ·
       refine AnyOrder.wpOp_go rfl (by rfl) ?_
       go_wp2_with fail
       refine (redpencilref14_Before.calls y.f0.f0 y.f0.f1 x.f0.f0 x.f0.f1 t V (by rw [jbefore_is, Ht.out])).mono ?_
       rintro e V' ⟨rfl, hb⟩
       exact hK _ _ ⟨_, _, _, _, _, _, _, _, _, _, _, _, _, _, _, _, _, _, _, _, _, _, _, _, _, rfl, rfl, ⟨below_more HF.out hb⟩⟩
    ·
     cases b
     ·
      refine AnyOrder.wpOp_out rfl (by rfl) ?_
      exact hK _ _ ⟨_, _, _, _, _, _, _, _, _, _, _, _, _, _, _, _, _, _, _, _, _, _, _, _, _, rfl, rfl, HF⟩
     ·
      cases q
      ·
       refine AnyOrder.wpOp_go rfl (by rfl) ?_
       go_wp2_with fail
       exact ⟨_, _, _, _, _, _, _, _, _, _, _, _, _, _, _, _, _, _, _, _, _, _, _, _, _, rfl, rfl, HF⟩
      ·
       refine AnyOrder.wpOp_go rfl (by rfl) ?_
       go_wp2_with fail
       exact ⟨_, _, _, _, _, _, _, _, _, _, _, _, _, _, _, _, _, _, _, _, _, _, _, _, _, rfl, rfl, HF⟩
    ·
     cases b
     ·
      refine AnyOrder.wpOp_go rfl (by rfl) ?_
      go_wp2_with fail
      exact ⟨_, _, _, _, _, _, _, _, _, _, _, _, _, _, _, _, _, _, _, _, _, _, _, _, _, rfl, rfl, HF⟩
     ·
      refine AnyOrder.wpOp_go rfl (by rfl) ?_
      go_wp2_with fail
      exact ⟨_, _, _, _, _, _, _, _, _, _, _, _, _, _, _, _, _, _, _, _, _, _, _, _, _, rfl, rfl, HF⟩
   case last =>
    rintro L ac V ⟨l0, l1, l2, l3, l4, l5, l6, l7, l8, l9, l10, l11, l12, l13, l14, l15, l16, l17, l18, l19, l20, l21, l22, l23, l24, rfl, rfl, HF⟩ hr
    obtain ⟨rfl, rfl, rfl, rfl, rfl, rfl, rfl, rfl, rfl, rfl, rfl, rfl, rfl, rfl, rfl, rfl, rfl, rfl, rfl, rfl, rfl, rfl, rfl, rfl, rfl, -⟩ := AnyOrder.alls rfl (by kernel_rfl) hr
    clear hr
    simp only [sel_true, selv_true]
    have HB := Aside0.mk (below_more HB.out (below_more (below_drew1 (Below.refl _ wr)) HF.out))
    have hkk := HKN.out
    cases hs : (!b || (q && !t)) with
    | true =>
     have HEND : Aside0 (r = false) := ⟨by
      rw [← HRES.out]
      refine storeOk_take (i := i' + 1) (HST.out.trans ?_)
      revert hs; cases b <;> cases q <;> cases t <;> simp⟩
     clear hs
     go_wp2
     go_ret
     exact ⟨by rw [HEND.out]; rfl, HB.out⟩
    | false =>
     have HOK : Aside0 (storeOk (l0.take (i' + 1)) = true) := ⟨by rw [HST.out]; revert hs; cases b <;> cases q <;> cases t <;> simp⟩
     clear hs
     go_wp2
     go_roundw
     case rel => exact ⟨i' + 1, by omega, by go_num, HOK, HB⟩
     case measure => simp [intOf]; omega
  ·
   obtain rfl : i' = n := by omega
   rw [List.take_of_length_le (Nat.le_of_eq Hn.out), HRES.out] at HOK
   have HEND : Aside0 (r = true) := ⟨HOK.out⟩
   go_wp2
   go_ret
   exact ⟨by rw [HEND.out]; rfl, HB.out⟩
end Go.Proofs.YtmbndijbpgobeaaGreat.PWalk
end
section
namespace Go.Proofs.YtmbndijbpgobeaaGreat.PWalk
open Go.RowKit Go.Proofs.YtmbndijbpgobeaaGreatW.PrintWords Go.Proofs.YtmbndijbpgobeaaGreatW.PrintLast Go.Proofs.YtmbndijbpgobeaaGreatW.PrintMore
attribute [local go_sem] max2_int max_two
set_option linter.unusedVariables false
set_option linter.unusedSimpArgs false
attribute [local go_sem high] eqA25
def redpencilref14_Find.l0 : Nat → List (S53) → Int → Int → Int → Option (Int)
 | 0, _, _, _, _ => none
 | k + 1, x0, x5, x251000, x251001 => if x5 < (x0.length : Int) then (if 0 ≤ x5 then (if (((rd_T53 x0 x5).f0.f0) == x251000 && (((rd_T53 x0 x5).f0.f1) == x251001)) = true then (some x5) else (redpencilref14_Find.l0 k x0 (wrap64 (x5 + 1)) x251000 x251001)) else (none)) else (some (-1))
def redpencilref14_Find.f (k : Nat) (l0 : List (S53)) (a1_0 : Int) (a1_1 : Int) : Option (Int) := redpencilref14_Find.l0 k l0 0 a1_0 a1_1
set_option maxHeartbeats 8000000 in
set_option maxRecDepth 100000 in
theorem redpencilref14_Find.calls (k : Nat) (A0 : Option Addr) (c0 : Nat) (l0 : List (S53)) (a1_0 : Int) (a1_1 : Int) (r : Int) (w : World) (hr0 : Kd.C k53 w A0 l0.length l0) (hc0 : l0.length ≤ c0) (h : redpencilref14_Find.f k l0 a1_0 a1_1 = some r) :
  Calls Tryz.prog 39 #[.slice A0 l0.length c0, .agg #[.int .i64 a1_0, .int .i64 a1_1]] w fun e w' => e = .returned (.int .i64 r) ∧ Below w.heap.size w w' := by
 have hu25 := Tryz.underlying25
 have HR0 := Aside0.mk hr0
 have HC0 := Aside0.mk hc0
 clear hr0 hc0
 have HB := Aside0.mk (Below.refl w.heap.size w)
 have H : (redpencilref14_Find.l0 k l0 0 a1_0 a1_1) = some r := h
 clear h
 have H' := Aside0.mk H
 clear H
 go_enter Tryz.func39, Tryz.ntmps39
 go_wp2_with (first | ((with_reducible refine gate_dst (N := 3) rfl ?_); refine box_event ?hg (N := 3) ?hd (cs := #[.int .i64 a1_0, .int .i64 a1_1]) (t := 25) ?hr ?_; (case hd => rfl); (case hg => rfl); (case hr => first | (go_simp; done) | (go_simp; rfl)); intro gb250 hg w3 hbox hb; have n0_ := Aside0.mk (below_step (by repeat (first | (with_reducible first | exact HB.out | apply below_alloc | apply pw_below_drewN | apply below_drew1) | exact HB.out)) hb); have n1_ := Aside0.mk (hbox); have n2_ := Aside0.mk ((by rw [hg]; exact (below_size (by repeat (first | (with_reducible first | exact HB.out | apply below_alloc | apply pw_below_drewN | apply below_drew1) | exact HB.out))) : w.heap.size ≤ gb250)); have n3_ := Aside0.mk ((by rw [hg]; exact (below_size (by repeat (first | (with_reducible first | exact HB.out | apply below_alloc | apply pw_below_drewN | apply below_drew1) | exact HB.out))) : w.heap.size ≤ gb250)); clear HB; have HB := n0_; have BK250 := n1_; have GW250 := n2_; have GE250 := n3_; clear n0_ n1_ n2_ n3_; clear hb hbox hg))
 repeat (go_quiet (first | ((with_reducible refine gate_dst (N := 3) rfl ?_); refine box_event ?hg (N := 3) ?hd (cs := #[.int .i64 a1_0, .int .i64 a1_1]) (t := 25) ?hr ?_; (case hd => rfl); (case hg => rfl); (case hr => first | (go_simp; done) | (go_simp; rfl)); intro gb250 hg w3 hbox hb; have n0_ := Aside0.mk (below_step (by repeat (first | (with_reducible first | exact HB.out | apply below_alloc | apply pw_below_drewN | apply below_drew1) | exact HB.out)) hb); have n1_ := Aside0.mk (hbox); have n2_ := Aside0.mk ((by rw [hg]; exact (below_size (by repeat (first | (with_reducible first | exact HB.out | apply below_alloc | apply pw_below_drewN | apply below_drew1) | exact HB.out))) : w.heap.size ≤ gb250)); have n3_ := Aside0.mk ((by rw [hg]; exact (below_size (by repeat (first | (with_reducible first | exact HB.out | apply below_alloc | apply pw_below_drewN | apply below_drew1) | exact HB.out))) : w.heap.size ≤ gb250)); clear HB; have HB := n0_; have BK250 := n1_; have GW250 := n2_; have GE250 := n3_; clear n0_ n1_ n2_ n3_; clear hb hbox hg)); try go_wp2_with (first | ((with_reducible refine gate_dst (N := 3) rfl ?_); refine box_event ?hg (N := 3) ?hd (cs := #[.int .i64 a1_0, .int .i64 a1_1]) (t := 25) ?hr ?_; (case hd => rfl); (case hg => rfl); (case hr => first | (go_simp; done) | (go_simp; rfl)); intro gb250 hg w3 hbox hb; have n0_ := Aside0.mk (below_step (by repeat (first | (with_reducible first | exact HB.out | apply below_alloc | apply pw_below_drewN | apply below_drew1) | exact HB.out)) hb); have n1_ := Aside0.mk (hbox); have n2_ := Aside0.mk ((by rw [hg]; exact (below_size (by repeat (first | (with_reducible first | exact HB.out | apply below_alloc | apply pw_below_drewN | apply below_drew1) | exact HB.out))) : w.heap.size ≤ gb250)); have n3_ := Aside0.mk ((by rw [hg]; exact (below_size (by repeat (first | (with_reducible first | exact HB.out | apply below_alloc | apply pw_below_drewN | apply below_drew1) | exact HB.out))) : w.heap.size ≤ gb250)); clear HB; have HB := n0_; have BK250 := n1_; have GW250 := n2_; have GE250 := n3_; clear n0_ n1_ n2_ n3_; clear hb hbox hg)))
 go_loopg [5] k (fun kq v5 w' => ∃ (x5_1 : Int), v5 = .int .i64 x5_1 ∧ Aside0 (redpencilref14_Find.l0 kq l0 x5_1 a1_0 a1_1 = some r) ∧ Aside0 (kq ≤ k) ∧ Aside0 (w'.heap[gb250]? = some (.cells #[.int .i64 a1_0, .int .i64 a1_1] 25 (0, 0))) ∧ Aside0 (Below w.heap.size w w'))
 case atStart => exact ⟨(0), (by first | rfl | (simp; done) | (simp [*]; done)), H', ⟨Nat.le_refl _⟩, ⟨by (with_reducible repeat (first | refine blk_drewN ?_ _ | refine blk_drew ?_ | refine blk_alloc ?_ _)); exact BK250.out⟩, ⟨by repeat (first | (with_reducible first | exact HB.out | apply below_alloc | apply pw_below_drewN | apply below_drew1 | refine below_set ?_ GE250.out) | exact HB.out)⟩⟩
 case round =>
  clear H'
  try clear p2
  try clear c3
  obtain ⟨x5_1, rfl, HA, HK1, BK250, HB⟩ := hrel
  cases gk with
  | zero => exact absurd HA.out (by simp [redpencilref14_Find.l0])
  | succ k1 =>
   have H := HA.out
   clear HA
   simp only [redpencilref14_Find.l0] at H
   by_cases c4 : x5_1 < (l0.length : Int)
   ·
    rw [if_pos c4] at H
    have c4b0 : decide (x5_1 < (l0.length : Int)) = true := decide_eq_true c4
    clear c4
    by_cases c5 : 0 ≤ x5_1
    ·
     rw [if_pos c5] at H
     have c5b0 : decide (0 ≤ x5_1) = true := decide_eq_true c5
     clear c5
     by_cases c6 : (((rd_T53 l0 x5_1).f0.f0) == a1_0 && (((rd_T53 l0 x5_1).f0.f1) == a1_1)) = true
     ·
      rw [if_pos c6] at H
      have c6b0 : (((rd_T53 l0 x5_1).f0.f0) == a1_0 && (((rd_T53 l0 x5_1).f0.f1) == a1_1)) = true := c6
      (try (have c6b1 : decide (((rd_T53 l0 x5_1).f0.f0) = a1_0 && (((rd_T53 l0 x5_1).f0.f1) == a1_1)) = true := by simpa using c6))
      (try (have c6b2 : (((rd_T53 l0 x5_1).f0.f0) == a1_0 && (((rd_T53 l0 x5_1).f0.f1) == a1_1)) = true := by simpa using c6))
      clear c6
      obtain rfl := Option.some.inj H
      have p251 : 0 ≤ (x5_1 : Int) := of_decide_eq_true (by first | (with_reducible assumption) | assumption)
      have q251 : x5_1 < (l0.length : Int) := of_decide_eq_true (by first | (with_reducible assumption) | assumption)
      obtain ⟨ad251, e251, hx251_0, hx251_1, hx251_2, hx251_3, hx251_4, hx251_5⟩ := at_T53 HR0.out x5_1 p251 q251
      cases e251
      replace hx251_0 := (HB.out.cell (World.block_lt_of_cell? w _ hx251_0)).trans hx251_0
      replace hx251_1 := (HB.out.cell (World.block_lt_of_cell? w _ hx251_1)).trans hx251_1
      replace hx251_2 := (HB.out.cell (World.block_lt_of_cell? w _ hx251_2)).trans hx251_2
      replace hx251_3 := (HB.out.cell (World.block_lt_of_cell? w _ hx251_3)).trans hx251_3
      replace hx251_4 := (HB.out.cell (World.block_lt_of_cell? w _ hx251_4)).trans hx251_4
      replace hx251_5 := (HB.out.cell (World.block_lt_of_cell? w _ hx251_5)).trans hx251_5
      replace p251 := eq_true p251
      replace q251 := eq_true q251
      have hcz7_0 : wr.cell? ⟨gb250, 0, none⟩ = some (.int .i64 a1_0) := (blk_cell BK250.out 0).trans rfl
      have hcz7_1 : wr.cell? ⟨gb250, 1, none⟩ = some (.int .i64 a1_1) := (blk_cell BK250.out 1).trans rfl
      have hfz7_0 := blk_frozen BK250.out 0
      have hfz7_1 := blk_frozen BK250.out 1
      go_wp2
      repeat (go_quiet (fail); try go_wp2)
      go_ret
      exact ⟨by first | rfl | (simp [errW_none, errW_some] <;> rfl) | (simp [*, errW_none, errW_some] <;> rfl), by repeat (first | (with_reducible first | exact HB.out | apply below_alloc | apply pw_below_drewN | apply below_drew1 | refine below_set ?_ GE250.out) | exact HB.out)⟩
     ·
      rw [if_neg c6] at H
      have c6b0 : (((rd_T53 l0 x5_1).f0.f0) == a1_0 && (((rd_T53 l0 x5_1).f0.f1) == a1_1)) = false := by simpa using c6
      (try (have c6b1 : decide (((rd_T53 l0 x5_1).f0.f0) = a1_0 && (((rd_T53 l0 x5_1).f0.f1) == a1_1)) = false := by simpa using c6))
      (try (have c6b2 : (((rd_T53 l0 x5_1).f0.f0) == a1_0 && (((rd_T53 l0 x5_1).f0.f1) == a1_1)) = false := by simpa using c6))
      (try (have c6b3 : ¬ (((rd_T53 l0 x5_1).f0.f0) = a1_0 && (((rd_T53 l0 x5_1).f0.f1) == a1_1)) := by simpa using c6))
      clear c6
      have H' := Aside0.mk H
      clear H
      have p251 : 0 ≤ (x5_1 : Int) := of_decide_eq_true (by first | (with_reducible assumption) | assumption)
      have q251 : x5_1 < (l0.length : Int) := of_decide_eq_true (by first | (with_reducible assumption) | assumption)
      obtain ⟨ad251, e251, hx251_0, hx251_1, hx251_2, hx251_3, hx251_4, hx251_5⟩ := at_T53 HR0.out x5_1 p251 q251
      cases e251
      replace hx251_0 := (HB.out.cell (World.block_lt_of_cell? w _ hx251_0)).trans hx251_0
      replace hx251_1 := (HB.out.cell (World.block_lt_of_cell? w _ hx251_1)).trans hx251_1
      replace hx251_2 := (HB.out.cell (World.block_lt_of_cell? w _ hx251_2)).trans hx251_2
      replace hx251_3 := (HB.out.cell (World.block_lt_of_cell? w _ hx251_3)).trans hx251_3
      replace hx251_4 := (HB.out.cell (World.block_lt_of_cell? w _ hx251_4)).trans hx251_4
      replace hx251_5 := (HB.out.cell (World.block_lt_of_cell? w _ hx251_5)).trans hx251_5
      replace p251 := eq_true p251
      replace q251 := eq_true q251
      have hcz8_0 : wr.cell? ⟨gb250, 0, none⟩ = some (.int .i64 a1_0) := (blk_cell BK250.out 0).trans rfl
      have hcz8_1 : wr.cell? ⟨gb250, 1, none⟩ = some (.int .i64 a1_1) := (blk_cell BK250.out 1).trans rfl
      have hfz8_0 := blk_frozen BK250.out 0
      have hfz8_1 := blk_frozen BK250.out 1
      go_wp2
      repeat (go_quiet (fail); try go_wp2)
      go_roundg k1
      case measure => have := HK1.out; omega
      case rel => exact ⟨(wrap64 (x5_1 + 1)), (by first | rfl | (simp; done) | (simp [*]; done)), H', ⟨by have := HK1.out; omega⟩, ⟨by (with_reducible repeat (first | refine blk_drewN ?_ _ | refine blk_drew ?_ | refine blk_alloc ?_ _)); exact BK250.out⟩, ⟨by repeat (first | (with_reducible first | exact HB.out | apply below_alloc | apply pw_below_drewN | apply below_drew1 | refine below_set ?_ GE250.out) | exact HB.out)⟩⟩
    ·
     rw [if_neg c5] at H
     exact absurd H (by simp)
   ·
    rw [if_neg c4] at H
    have c4b0 : decide (x5_1 < (l0.length : Int)) = false := decide_eq_false c4
    clear c4
    obtain rfl := Option.some.inj H
    go_wp2
    repeat (go_quiet (fail); try go_wp2)
    go_ret
    exact ⟨by first | rfl | (simp [errW_none, errW_some] <;> rfl) | (simp [*, errW_none, errW_some] <;> rfl), by repeat (first | (with_reducible first | exact HB.out | apply below_alloc | apply pw_below_drewN | apply below_drew1 | refine below_set ?_ GE250.out) | exact HB.out)⟩
end Go.Proofs.YtmbndijbpgobeaaGreat.PWalk
end
section
namespace Go.Proofs.YtmbndijbpgobeaaGreat.PWalk
open Go.RowKit Go.Proofs.YtmbndijbpgobeaaGreatW.PrintWords Go.Proofs.YtmbndijbpgobeaaGreatW.PrintLast Go.Proofs.YtmbndijbpgobeaaGreatW.PrintMore
attribute [local go_sem] max2_int max_two
set_option linter.unusedVariables false
set_option linter.unusedSimpArgs false
attribute [local go_sem high] eqA25
def redpencilref14_Well.l0 : Nat → List (S53) → Int → Option (Bool)
 | 0, _, _ => none
 | k + 1, x0, x3 => if x3 < (x0.length : Int) then (if 0 ≤ x3 then (if (((rd_T53 x0 x3).f1.f0) == 0 && (((rd_T53 x0 x3).f1.f1) == 0)) = true then (redpencilref14_Well.l0 k x0 (wrap64 (x3 + 1))) else ((redpencilref14_Find.f k x0 ((rd_T53 x0 x3).f1.f0) ((rd_T53 x0 x3).f1.f1)).bind fun t258 => (if t258 < 0 then (some false) else (if 0 ≤ t258 then (if t258 < (x0.length : Int) then (if ((rd_T53 x0 t258).f2) ≥ ((rd_T53 x0 x3).f2) then (some false) else (redpencilref14_Well.l0 k x0 (wrap64 (x3 + 1)))) else (none)) else (none))))) else (none)) else (some true)
def redpencilref14_Well.f (k : Nat) (l0 : List (S53)) : Option (Bool) := (redpencilref14_Store.f l0).bind fun t255 => (if t255 = true then (redpencilref14_Well.l0 k l0 0) else (some false))
set_option maxHeartbeats 8000000 in
set_option maxRecDepth 100000 in
theorem redpencilref14_Well.calls (k : Nat) (A0 : Option Addr) (c0 : Nat) (l0 : List (S53)) (r : Bool) (w : World) (hr0 : Kd.C k53 w A0 l0.length l0) (hc0 : l0.length ≤ c0) (h : redpencilref14_Well.f k l0 = some r) :
  Calls Tryz.prog 35 #[.slice A0 l0.length c0] w fun e w' => e = .returned (.bool r) ∧ Below w.heap.size w w' := by
 have hu25 := Tryz.underlying25
 have HR0 := Aside0.mk hr0
 have HC0 := Aside0.mk hc0
 clear hr0 hc0
 have HB := Aside0.mk (Below.refl w.heap.size w)
 have H : ((redpencilref14_Store.f l0).bind fun t255 => (if t255 = true then (redpencilref14_Well.l0 k l0 0) else (some false))) = some r := h
 clear h
 replace H := Option.bind_eq_some_iff.mp H
 obtain ⟨t255, A20, H⟩ := H
 replace H : (if t255 = true then (redpencilref14_Well.l0 k l0 0) else (some false)) = some r := H
 have A2 := Aside0.mk A20
 clear A20
 by_cases c3 : t255 = true
 ·
  subst c3
  have H1 : (redpencilref14_Well.l0 k l0 0) = some r := by rw [if_pos rfl] at H; exact H
  clear H
  have H := H1
  clear H1
  have H' := Aside0.mk H
  clear H
  go_enter Tryz.func35, Tryz.ntmps35
  go_wp2_with (first | (go_at_call 26; (with_reducible refine (redpencilref14_Store.calls _ _ l0 true _ ?side1 ?side2 A2.out).mono ?_); (case side1 => repeat (first | exact HR0.out | (with_reducible refine Kd.C_alloc ?_ _) | (with_reducible refine Kd.C_drewN ?_ _) | (with_reducible refine Kd.C_drew ?_))); (case side2 => exact HC0.out); rintro e w4 ⟨rfl, hb⟩; have n0_ := Aside0.mk (below_step (by repeat (first | (with_reducible first | exact HB.out | apply below_alloc | apply pw_below_drewN | apply below_drew1) | exact HB.out)) hb); clear HB; have HB := n0_; clear n0_; (try clear hb); (try clear hb2); (try clear hk); (try clear hi)))
  repeat (go_quiet (first | (go_at_call 26; (with_reducible refine (redpencilref14_Store.calls _ _ l0 true _ ?side1 ?side2 A2.out).mono ?_); (case side1 => repeat (first | exact HR0.out | (with_reducible refine Kd.C_alloc ?_ _) | (with_reducible refine Kd.C_drewN ?_ _) | (with_reducible refine Kd.C_drew ?_))); (case side2 => exact HC0.out); rintro e w4 ⟨rfl, hb⟩; have n0_ := Aside0.mk (below_step (by repeat (first | (with_reducible first | exact HB.out | apply below_alloc | apply pw_below_drewN | apply below_drew1) | exact HB.out)) hb); clear HB; have HB := n0_; clear n0_; (try clear hb); (try clear hb2); (try clear hk); (try clear hi))); try go_wp2_with (first | (go_at_call 26; (with_reducible refine (redpencilref14_Store.calls _ _ l0 true _ ?side1 ?side2 A2.out).mono ?_); (case side1 => repeat (first | exact HR0.out | (with_reducible refine Kd.C_alloc ?_ _) | (with_reducible refine Kd.C_drewN ?_ _) | (with_reducible refine Kd.C_drew ?_))); (case side2 => exact HC0.out); rintro e w4 ⟨rfl, hb⟩; have n0_ := Aside0.mk (below_step (by repeat (first | (with_reducible first | exact HB.out | apply below_alloc | apply pw_below_drewN | apply below_drew1) | exact HB.out)) hb); clear HB; have HB := n0_; clear n0_; (try clear hb); (try clear hb2); (try clear hk); (try clear hi))))
  go_loopg [3] k (fun kq v3 w' => ∃ (x3_1 : Int), v3 = .int .i64 x3_1 ∧ Aside0 (redpencilref14_Well.l0 kq l0 x3_1 = some r) ∧ Aside0 (kq ≤ k) ∧ Aside0 (Below w.heap.size w w'))
  case atStart => exact ⟨(0), (by first | rfl | (simp; done) | (simp [*]; done)), H', ⟨Nat.le_refl _⟩, ⟨by repeat (first | (with_reducible first | exact HB.out | apply below_alloc | apply pw_below_drewN | apply below_drew1) | exact HB.out)⟩⟩
  case round =>
   clear H'
   try clear p2
   try clear c3
   obtain ⟨x3_1, rfl, HA, HK1, HB⟩ := hrel
   cases gk with
   | zero => exact absurd HA.out (by simp [redpencilref14_Well.l0])
   | succ k1 =>
    have H := HA.out
    clear HA
    simp only [redpencilref14_Well.l0] at H
    by_cases c5 : x3_1 < (l0.length : Int)
    ·
     rw [if_pos c5] at H
     have c5b0 : decide (x3_1 < (l0.length : Int)) = true := decide_eq_true c5
     clear c5
     by_cases c6 : 0 ≤ x3_1
     ·
      rw [if_pos c6] at H
      have c6b0 : decide (0 ≤ x3_1) = true := decide_eq_true c6
      clear c6
      by_cases c7 : (((rd_T53 l0 x3_1).f1.f0) == 0 && (((rd_T53 l0 x3_1).f1.f1) == 0)) = true
      ·
       rw [if_pos c7] at H
       have c7b0 : (((rd_T53 l0 x3_1).f1.f0) == 0 && (((rd_T53 l0 x3_1).f1.f1) == 0)) = true := c7
       (try (have c7b1 : decide (((rd_T53 l0 x3_1).f1.f0) = 0 && (((rd_T53 l0 x3_1).f1.f1) == 0)) = true := by simpa using c7))
       (try (have c7b2 : (((rd_T53 l0 x3_1).f1.f0) == 0 && (((rd_T53 l0 x3_1).f1.f1) == 0)) = true := by simpa using c7))
       clear c7
       have H' := Aside0.mk H
       clear H
       have p256 : 0 ≤ (x3_1 : Int) := of_decide_eq_true (by first | (with_reducible assumption) | assumption)
       have q256 : x3_1 < (l0.length : Int) := of_decide_eq_true (by first | (with_reducible assumption) | assumption)
       obtain ⟨ad256, e256, hx256_0, hx256_1, hx256_2, hx256_3, hx256_4, hx256_5⟩ := at_T53 HR0.out x3_1 p256 q256
       cases e256
       replace hx256_0 := (HB.out.cell (World.block_lt_of_cell? w _ hx256_0)).trans hx256_0
       replace hx256_1 := (HB.out.cell (World.block_lt_of_cell? w _ hx256_1)).trans hx256_1
       replace hx256_2 := (HB.out.cell (World.block_lt_of_cell? w _ hx256_2)).trans hx256_2
       replace hx256_3 := (HB.out.cell (World.block_lt_of_cell? w _ hx256_3)).trans hx256_3
       replace hx256_4 := (HB.out.cell (World.block_lt_of_cell? w _ hx256_4)).trans hx256_4
       replace hx256_5 := (HB.out.cell (World.block_lt_of_cell? w _ hx256_5)).trans hx256_5
       replace p256 := eq_true p256
       replace q256 := eq_true q256
       go_wp2
       repeat (go_quiet (fail); try go_wp2)
       go_roundg k1
       case measure => have := HK1.out; omega
       case rel => exact ⟨(wrap64 (x3_1 + 1)), (by first | rfl | (simp; done) | (simp [*]; done)), H', ⟨by have := HK1.out; omega⟩, ⟨by repeat (first | (with_reducible first | exact HB.out | apply below_alloc | apply pw_below_drewN | apply below_drew1) | exact HB.out)⟩⟩
      ·
       rw [if_neg c7] at H
       have c7b0 : (((rd_T53 l0 x3_1).f1.f0) == 0 && (((rd_T53 l0 x3_1).f1.f1) == 0)) = false := by simpa using c7
       (try (have c7b1 : decide (((rd_T53 l0 x3_1).f1.f0) = 0 && (((rd_T53 l0 x3_1).f1.f1) == 0)) = false := by simpa using c7))
       (try (have c7b2 : (((rd_T53 l0 x3_1).f1.f0) == 0 && (((rd_T53 l0 x3_1).f1.f1) == 0)) = false := by simpa using c7))
       (try (have c7b3 : ¬ (((rd_T53 l0 x3_1).f1.f0) = 0 && (((rd_T53 l0 x3_1).f1.f1) == 0)) := by simpa using c7))
       clear c7
       replace H := Option.bind_eq_some_iff.mp H
       obtain ⟨t258, A80, H⟩ := H
       replace H : (if t258 < 0 then (some false) else (if 0 ≤ t258 then (if t258 < (l0.length : Int) then (if ((rd_T53 l0 t258).f2) ≥ ((rd_T53 l0 x3_1).f2) then (some false) else (redpencilref14_Well.l0 k1 l0 (wrap64 (x3_1 + 1)))) else (none)) else (none))) = some r := H
       have A8 := Aside0.mk A80
       clear A80
       by_cases c9 : t258 < 0
       ·
        rw [if_pos c9] at H
        have c9b0 : decide (t258 < 0) = true := decide_eq_true c9
        clear c9
        obtain rfl := Option.some.inj H
        have p256 : 0 ≤ (x3_1 : Int) := of_decide_eq_true (by first | (with_reducible assumption) | assumption)
        have q256 : x3_1 < (l0.length : Int) := of_decide_eq_true (by first | (with_reducible assumption) | assumption)
        obtain ⟨ad256, e256, hx256_0, hx256_1, hx256_2, hx256_3, hx256_4, hx256_5⟩ := at_T53 HR0.out x3_1 p256 q256
        cases e256
        replace hx256_0 := (HB.out.cell (World.block_lt_of_cell? w _ hx256_0)).trans hx256_0
        replace hx256_1 := (HB.out.cell (World.block_lt_of_cell? w _ hx256_1)).trans hx256_1
        replace hx256_2 := (HB.out.cell (World.block_lt_of_cell? w _ hx256_2)).trans hx256_2
        replace hx256_3 := (HB.out.cell (World.block_lt_of_cell? w _ hx256_3)).trans hx256_3
        replace hx256_4 := (HB.out.cell (World.block_lt_of_cell? w _ hx256_4)).trans hx256_4
        replace hx256_5 := (HB.out.cell (World.block_lt_of_cell? w _ hx256_5)).trans hx256_5
        replace p256 := eq_true p256
        replace q256 := eq_true q256
        have p257 : 0 ≤ (x3_1 : Int) := of_decide_eq_true (by first | (with_reducible assumption) | assumption)
        have q257 : x3_1 < (l0.length : Int) := of_decide_eq_true (by first | (with_reducible assumption) | assumption)
        obtain ⟨ad257, e257, hx257_0, hx257_1, hx257_2, hx257_3, hx257_4, hx257_5⟩ := at_T53 HR0.out x3_1 p257 q257
        obtain rfl : ad256 = ad257 := (by injection e257)
        replace hx257_0 := (HB.out.cell (World.block_lt_of_cell? w _ hx257_0)).trans hx257_0
        replace hx257_1 := (HB.out.cell (World.block_lt_of_cell? w _ hx257_1)).trans hx257_1
        replace hx257_2 := (HB.out.cell (World.block_lt_of_cell? w _ hx257_2)).trans hx257_2
        replace hx257_3 := (HB.out.cell (World.block_lt_of_cell? w _ hx257_3)).trans hx257_3
        replace hx257_4 := (HB.out.cell (World.block_lt_of_cell? w _ hx257_4)).trans hx257_4
        replace hx257_5 := (HB.out.cell (World.block_lt_of_cell? w _ hx257_5)).trans hx257_5
        replace p257 := eq_true p257
        replace q257 := eq_true q257
        go_wp2_with (first | (go_at_call 39; (with_reducible refine (redpencilref14_Find.calls k1 _ _ l0 ((rd_T53 l0 x3_1).f1.f0) ((rd_T53 l0 x3_1).f1.f1) t258 _ ?side1 ?side2 A8.out).mono ?_); (case side1 => repeat (first | exact (Kd.C_below HR0.out HB.out) | (with_reducible refine Kd.C_alloc ?_ _) | (with_reducible refine Kd.C_drewN ?_ _) | (with_reducible refine Kd.C_drew ?_))); (case side2 => exact HC0.out); rintro e w10 ⟨rfl, hb⟩; have n0_ := Aside0.mk (below_step (by repeat (first | (with_reducible first | exact HB.out | apply below_alloc | apply pw_below_drewN | apply below_drew1) | exact HB.out)) hb); clear HB; have HB := n0_; clear n0_; (try clear hb); (try clear hb2); (try clear hk); (try clear hi)))
        repeat (go_quiet (first | (go_at_call 39; (with_reducible refine (redpencilref14_Find.calls k1 _ _ l0 ((rd_T53 l0 x3_1).f1.f0) ((rd_T53 l0 x3_1).f1.f1) t258 _ ?side1 ?side2 A8.out).mono ?_); (case side1 => repeat (first | exact (Kd.C_below HR0.out HB.out) | (with_reducible refine Kd.C_alloc ?_ _) | (with_reducible refine Kd.C_drewN ?_ _) | (with_reducible refine Kd.C_drew ?_))); (case side2 => exact HC0.out); rintro e w10 ⟨rfl, hb⟩; have n0_ := Aside0.mk (below_step (by repeat (first | (with_reducible first | exact HB.out | apply below_alloc | apply pw_below_drewN | apply below_drew1) | exact HB.out)) hb); clear HB; have HB := n0_; clear n0_; (try clear hb); (try clear hb2); (try clear hk); (try clear hi))); try go_wp2_with (first | (go_at_call 39; (with_reducible refine (redpencilref14_Find.calls k1 _ _ l0 ((rd_T53 l0 x3_1).f1.f0) ((rd_T53 l0 x3_1).f1.f1) t258 _ ?side1 ?side2 A8.out).mono ?_); (case side1 => repeat (first | exact (Kd.C_below HR0.out HB.out) | (with_reducible refine Kd.C_alloc ?_ _) | (with_reducible refine Kd.C_drewN ?_ _) | (with_reducible refine Kd.C_drew ?_))); (case side2 => exact HC0.out); rintro e w10 ⟨rfl, hb⟩; have n0_ := Aside0.mk (below_step (by repeat (first | (with_reducible first | exact HB.out | apply below_alloc | apply pw_below_drewN | apply below_drew1) | exact HB.out)) hb); clear HB; have HB := n0_; clear n0_; (try clear hb); (try clear hb2); (try clear hk); (try clear hi))))
        go_ret
        exact ⟨by first | rfl | (simp [errW_none, errW_some] <;> rfl) | (simp [*, errW_none, errW_some] <;> rfl), by repeat (first | (with_reducible first | exact HB.out | apply below_alloc | apply pw_below_drewN | apply below_drew1) | exact HB.out)⟩
       ·
        rw [if_neg c9] at H
        have c9b0 : decide (t258 < 0) = false := decide_eq_false c9
        clear c9
        by_cases c11 : 0 ≤ t258
        ·
         rw [if_pos c11] at H
         have c11b0 : decide (0 ≤ t258) = true := decide_eq_true c11
         clear c11
         by_cases c12 : t258 < (l0.length : Int)
         ·
          rw [if_pos c12] at H
          have c12b0 : decide (t258 < (l0.length : Int)) = true := decide_eq_true c12
          clear c12
          by_cases c13 : ((rd_T53 l0 t258).f2) ≥ ((rd_T53 l0 x3_1).f2)
          ·
           rw [if_pos c13] at H
           have c13b0 : decide (((rd_T53 l0 x3_1).f2) ≤ ((rd_T53 l0 t258).f2)) = true := decide_eq_true c13
           clear c13
           obtain rfl := Option.some.inj H
           have p256 : 0 ≤ (x3_1 : Int) := of_decide_eq_true (by first | (with_reducible assumption) | assumption)
           have q256 : x3_1 < (l0.length : Int) := of_decide_eq_true (by first | (with_reducible assumption) | assumption)
           obtain ⟨ad256, e256, hx256_0, hx256_1, hx256_2, hx256_3, hx256_4, hx256_5⟩ := at_T53 HR0.out x3_1 p256 q256
           cases e256
           replace hx256_0 := (HB.out.cell (World.block_lt_of_cell? w _ hx256_0)).trans hx256_0
           replace hx256_1 := (HB.out.cell (World.block_lt_of_cell? w _ hx256_1)).trans hx256_1
           replace hx256_2 := (HB.out.cell (World.block_lt_of_cell? w _ hx256_2)).trans hx256_2
           replace hx256_3 := (HB.out.cell (World.block_lt_of_cell? w _ hx256_3)).trans hx256_3
           replace hx256_4 := (HB.out.cell (World.block_lt_of_cell? w _ hx256_4)).trans hx256_4
           replace hx256_5 := (HB.out.cell (World.block_lt_of_cell? w _ hx256_5)).trans hx256_5
           replace p256 := eq_true p256
           replace q256 := eq_true q256
           have p257 : 0 ≤ (x3_1 : Int) := of_decide_eq_true (by first | (with_reducible assumption) | assumption)
           have q257 : x3_1 < (l0.length : Int) := of_decide_eq_true (by first | (with_reducible assumption) | assumption)
           obtain ⟨ad257, e257, hx257_0, hx257_1, hx257_2, hx257_3, hx257_4, hx257_5⟩ := at_T53 HR0.out x3_1 p257 q257
           obtain rfl : ad256 = ad257 := (by injection e257)
           replace hx257_0 := (HB.out.cell (World.block_lt_of_cell? w _ hx257_0)).trans hx257_0
           replace hx257_1 := (HB.out.cell (World.block_lt_of_cell? w _ hx257_1)).trans hx257_1
           replace hx257_2 := (HB.out.cell (World.block_lt_of_cell? w _ hx257_2)).trans hx257_2
           replace hx257_3 := (HB.out.cell (World.block_lt_of_cell? w _ hx257_3)).trans hx257_3
           replace hx257_4 := (HB.out.cell (World.block_lt_of_cell? w _ hx257_4)).trans hx257_4
           replace hx257_5 := (HB.out.cell (World.block_lt_of_cell? w _ hx257_5)).trans hx257_5
           replace p257 := eq_true p257
           replace q257 := eq_true q257
           go_wp2_with (first | (go_at_call 39; (with_reducible refine (redpencilref14_Find.calls k1 _ _ l0 ((rd_T53 l0 x3_1).f1.f0) ((rd_T53 l0 x3_1).f1.f1) t258 _ ?side1 ?side2 A8.out).mono ?_); (case side1 => repeat (first | exact (Kd.C_below HR0.out HB.out) | (with_reducible refine Kd.C_alloc ?_ _) | (with_reducible refine Kd.C_drewN ?_ _) | (with_reducible refine Kd.C_drew ?_))); (case side2 => exact HC0.out); rintro e w14 ⟨rfl, hb⟩; have n0_ := Aside0.mk (below_step (by repeat (first | (with_reducible first | exact HB.out | apply below_alloc | apply pw_below_drewN | apply below_drew1) | exact HB.out)) hb); clear HB; have HB := n0_; clear n0_; (try clear hb); (try clear hb2); (try clear hk); (try clear hi); have p259 : 0 ≤ (t258 : Int) := of_decide_eq_true (by first | (with_reducible assumption) | assumption); have q259 : t258 < (l0.length : Int) := of_decide_eq_true (by first | (with_reducible assumption) | assumption); obtain ⟨ad259, e259, hx259_0, hx259_1, hx259_2, hx259_3, hx259_4, hx259_5⟩ := at_T53 HR0.out t258 p259 q259; obtain rfl : ad256 = ad259 := (by injection e259); replace hx259_0 := (HB.out.cell (World.block_lt_of_cell? w _ hx259_0)).trans hx259_0; replace hx259_1 := (HB.out.cell (World.block_lt_of_cell? w _ hx259_1)).trans hx259_1; replace hx259_2 := (HB.out.cell (World.block_lt_of_cell? w _ hx259_2)).trans hx259_2; replace hx259_3 := (HB.out.cell (World.block_lt_of_cell? w _ hx259_3)).trans hx259_3; replace hx259_4 := (HB.out.cell (World.block_lt_of_cell? w _ hx259_4)).trans hx259_4; replace hx259_5 := (HB.out.cell (World.block_lt_of_cell? w _ hx259_5)).trans hx259_5; replace p259 := eq_true p259; replace q259 := eq_true q259; have p260 : 0 ≤ (x3_1 : Int) := of_decide_eq_true (by first | (with_reducible assumption) | assumption); have q260 : x3_1 < (l0.length : Int) := of_decide_eq_true (by first | (with_reducible assumption) | assumption); obtain ⟨ad260, e260, hx260_0, hx260_1, hx260_2, hx260_3, hx260_4, hx260_5⟩ := at_T53 HR0.out x3_1 p260 q260; obtain rfl : ad256 = ad260 := (by injection e260); replace hx260_0 := (HB.out.cell (World.block_lt_of_cell? w _ hx260_0)).trans hx260_0; replace hx260_1 := (HB.out.cell (World.block_lt_of_cell? w _ hx260_1)).trans hx260_1; replace hx260_2 := (HB.out.cell (World.block_lt_of_cell? w _ hx260_2)).trans hx260_2; replace hx260_3 := (HB.out.cell (World.block_lt_of_cell? w _ hx260_3)).trans hx260_3; replace hx260_4 := (HB.out.cell (World.block_lt_of_cell? w _ hx260_4)).trans hx260_4; replace hx260_5 := (HB.out.cell (World.block_lt_of_cell? w _ hx260_5)).trans hx260_5; replace p260 := eq_true p260; replace q260 := eq_true q260))
           repeat (go_quiet (first | (go_at_call 39; (with_reducible refine (redpencilref14_Find.calls k1 _ _ l0 ((rd_T53 l0 x3_1).f1.f0) ((rd_T53 l0 x3_1).f1.f1) t258 _ ?side1 ?side2 A8.out).mono ?_); (case side1 => repeat (first | exact (Kd.C_below HR0.out HB.out) | (with_reducible refine Kd.C_alloc ?_ _) | (with_reducible refine Kd.C_drewN ?_ _) | (with_reducible refine Kd.C_drew ?_))); (case side2 => exact HC0.out); rintro e w14 ⟨rfl, hb⟩; have n0_ := Aside0.mk (below_step (by repeat (first | (with_reducible first | exact HB.out | apply below_alloc | apply pw_below_drewN | apply below_drew1) | exact HB.out)) hb); clear HB; have HB := n0_; clear n0_; (try clear hb); (try clear hb2); (try clear hk); (try clear hi); have p259 : 0 ≤ (t258 : Int) := of_decide_eq_true (by first | (with_reducible assumption) | assumption); have q259 : t258 < (l0.length : Int) := of_decide_eq_true (by first | (with_reducible assumption) | assumption); obtain ⟨ad259, e259, hx259_0, hx259_1, hx259_2, hx259_3, hx259_4, hx259_5⟩ := at_T53 HR0.out t258 p259 q259; obtain rfl : ad256 = ad259 := (by injection e259); replace hx259_0 := (HB.out.cell (World.block_lt_of_cell? w _ hx259_0)).trans hx259_0; replace hx259_1 := (HB.out.cell (World.block_lt_of_cell? w _ hx259_1)).trans hx259_1; replace hx259_2 := (HB.out.cell (World.block_lt_of_cell? w _ hx259_2)).trans hx259_2; replace hx259_3 := (HB.out.cell (World.block_lt_of_cell? w _ hx259_3)).trans hx259_3; replace hx259_4 := (HB.out.cell (World.block_lt_of_cell? w _ hx259_4)).trans hx259_4; replace hx259_5 := (HB.out.cell (World.block_lt_of_cell? w _ hx259_5)).trans hx259_5; replace p259 := eq_true p259; replace q259 := eq_true q259; have p260 : 0 ≤ (x3_1 : Int) := of_decide_eq_true (by first | (with_reducible assumption) | assumption); have q260 : x3_1 < (l0.length : Int) := of_decide_eq_true (by first | (with_reducible assumption) | assumption); obtain ⟨ad260, e260, hx260_0, hx260_1, hx260_2, hx260_3, hx260_4, hx260_5⟩ := at_T53 HR0.out x3_1 p260 q260; obtain rfl : ad256 = ad260 := (by injection e260); replace hx260_0 := (HB.out.cell (World.block_lt_of_cell? w _ hx260_0)).trans hx260_0; replace hx260_1 := (HB.out.cell (World.block_lt_of_cell? w _ hx260_1)).trans hx260_1; replace hx260_2 := (HB.out.cell (World.block_lt_of_cell? w _ hx260_2)).trans hx260_2; replace hx260_3 := (HB.out.cell (World.block_lt_of_cell? w _ hx260_3)).trans hx260_3; replace hx260_4 := (HB.out.cell (World.block_lt_of_cell? w _ hx260_4)).trans hx260_4; replace hx260_5 := (HB.out.cell (World.block_lt_of_cell? w _ hx260_5)).trans hx260_5; replace p260 := eq_true p260; replace q260 := eq_true q260)); try go_wp2_with (first | (go_at_call 39; (with_reducible refine (redpencilref14_Find.calls k1 _ _ l0 ((rd_T53 l0 x3_1).f1.f0) ((rd_T53 l0 x3_1).f1.f1) t258 _ ?side1 ?side2 A8.out).mono ?_); (case side1 => repeat (first | exact (Kd.C_below HR0.out HB.out) | (with_reducible refine Kd.C_alloc ?_ _) | (with_reducible refine Kd.C_drewN ?_ _) | (with_reducible refine Kd.C_drew ?_))); (case side2 => exact HC0.out); rintro e w14 ⟨rfl, hb⟩; have n0_ := Aside0.mk (below_step (by repeat (first | (with_reducible first | exact HB.out | apply below_alloc | apply pw_below_drewN | apply below_drew1) | exact HB.out)) hb); clear HB; have HB := n0_; clear n0_; (try clear hb); (try clear hb2); (try clear hk); (try clear hi); have p259 : 0 ≤ (t258 : Int) := of_decide_eq_true (by first | (with_reducible assumption) | assumption); have q259 : t258 < (l0.length : Int) := of_decide_eq_true (by first | (with_reducible assumption) | assumption); obtain ⟨ad259, e259, hx259_0, hx259_1, hx259_2, hx259_3, hx259_4, hx259_5⟩ := at_T53 HR0.out t258 p259 q259; obtain rfl : ad256 = ad259 := (by injection e259); replace hx259_0 := (HB.out.cell (World.block_lt_of_cell? w _ hx259_0)).trans hx259_0; replace hx259_1 := (HB.out.cell (World.block_lt_of_cell? w _ hx259_1)).trans hx259_1; replace hx259_2 := (HB.out.cell (World.block_lt_of_cell? w _ hx259_2)).trans hx259_2; replace hx259_3 := (HB.out.cell (World.block_lt_of_cell? w _ hx259_3)).trans hx259_3; replace hx259_4 := (HB.out.cell (World.block_lt_of_cell? w _ hx259_4)).trans hx259_4; replace hx259_5 := (HB.out.cell (World.block_lt_of_cell? w _ hx259_5)).trans hx259_5; replace p259 := eq_true p259; replace q259 := eq_true q259; have p260 : 0 ≤ (x3_1 : Int) := of_decide_eq_true (by first | (with_reducible assumption) | assumption); have q260 : x3_1 < (l0.length : Int) := of_decide_eq_true (by first | (with_reducible assumption) | assumption); obtain ⟨ad260, e260, hx260_0, hx260_1, hx260_2, hx260_3, hx260_4, hx260_5⟩ := at_T53 HR0.out x3_1 p260 q260; obtain rfl : ad256 = ad260 := (by injection e260); replace hx260_0 := (HB.out.cell (World.block_lt_of_cell? w _ hx260_0)).trans hx260_0; replace hx260_1 := (HB.out.cell (World.block_lt_of_cell? w _ hx260_1)).trans hx260_1; replace hx260_2 := (HB.out.cell (World.block_lt_of_cell? w _ hx260_2)).trans hx260_2; replace hx260_3 := (HB.out.cell (World.block_lt_of_cell? w _ hx260_3)).trans hx260_3; replace hx260_4 := (HB.out.cell (World.block_lt_of_cell? w _ hx260_4)).trans hx260_4; replace hx260_5 := (HB.out.cell (World.block_lt_of_cell? w _ hx260_5)).trans hx260_5; replace p260 := eq_true p260; replace q260 := eq_true q260)))
           go_ret
           exact ⟨by first | rfl | (simp [errW_none, errW_some] <;> rfl) | (simp [*, errW_none, errW_some] <;> rfl), by repeat (first | (with_reducible first | exact HB.out | apply below_alloc | apply pw_below_drewN | apply below_drew1) | exact HB.out)⟩
          ·
           rw [if_neg c13] at H
           have c13b0 : decide (((rd_T53 l0 x3_1).f2) ≤ ((rd_T53 l0 t258).f2)) = false := decide_eq_false c13
           clear c13
           have H' := Aside0.mk H
           clear H
           have p256 : 0 ≤ (x3_1 : Int) := of_decide_eq_true (by first | (with_reducible assumption) | assumption)
           have q256 : x3_1 < (l0.length : Int) := of_decide_eq_true (by first | (with_reducible assumption) | assumption)
           obtain ⟨ad256, e256, hx256_0, hx256_1, hx256_2, hx256_3, hx256_4, hx256_5⟩ := at_T53 HR0.out x3_1 p256 q256
           cases e256
           replace hx256_0 := (HB.out.cell (World.block_lt_of_cell? w _ hx256_0)).trans hx256_0
           replace hx256_1 := (HB.out.cell (World.block_lt_of_cell? w _ hx256_1)).trans hx256_1
           replace hx256_2 := (HB.out.cell (World.block_lt_of_cell? w _ hx256_2)).trans hx256_2
           replace hx256_3 := (HB.out.cell (World.block_lt_of_cell? w _ hx256_3)).trans hx256_3
           replace hx256_4 := (HB.out.cell (World.block_lt_of_cell? w _ hx256_4)).trans hx256_4
           replace hx256_5 := (HB.out.cell (World.block_lt_of_cell? w _ hx256_5)).trans hx256_5
           replace p256 := eq_true p256
           replace q256 := eq_true q256
           have p257 : 0 ≤ (x3_1 : Int) := of_decide_eq_true (by first | (with_reducible assumption) | assumption)
           have q257 : x3_1 < (l0.length : Int) := of_decide_eq_true (by first | (with_reducible assumption) | assumption)
           obtain ⟨ad257, e257, hx257_0, hx257_1, hx257_2, hx257_3, hx257_4, hx257_5⟩ := at_T53 HR0.out x3_1 p257 q257
           obtain rfl : ad256 = ad257 := (by injection e257)
           replace hx257_0 := (HB.out.cell (World.block_lt_of_cell? w _ hx257_0)).trans hx257_0
           replace hx257_1 := (HB.out.cell (World.block_lt_of_cell? w _ hx257_1)).trans hx257_1
           replace hx257_2 := (HB.out.cell (World.block_lt_of_cell? w _ hx257_2)).trans hx257_2
           replace hx257_3 := (HB.out.cell (World.block_lt_of_cell? w _ hx257_3)).trans hx257_3
           replace hx257_4 := (HB.out.cell (World.block_lt_of_cell? w _ hx257_4)).trans hx257_4
           replace hx257_5 := (HB.out.cell (World.block_lt_of_cell? w _ hx257_5)).trans hx257_5
           replace p257 := eq_true p257
           replace q257 := eq_true q257
           go_wp2_with (first | (go_at_call 39; (with_reducible refine (redpencilref14_Find.calls k1 _ _ l0 ((rd_T53 l0 x3_1).f1.f0) ((rd_T53 l0 x3_1).f1.f1) t258 _ ?side1 ?side2 A8.out).mono ?_); (case side1 => repeat (first | exact (Kd.C_below HR0.out HB.out) | (with_reducible refine Kd.C_alloc ?_ _) | (with_reducible refine Kd.C_drewN ?_ _) | (with_reducible refine Kd.C_drew ?_))); (case side2 => exact HC0.out); rintro e w15 ⟨rfl, hb⟩; have n0_ := Aside0.mk (below_step (by repeat (first | (with_reducible first | exact HB.out | apply below_alloc | apply pw_below_drewN | apply below_drew1) | exact HB.out)) hb); clear HB; have HB := n0_; clear n0_; (try clear hb); (try clear hb2); (try clear hk); (try clear hi); have p259 : 0 ≤ (t258 : Int) := of_decide_eq_true (by first | (with_reducible assumption) | assumption); have q259 : t258 < (l0.length : Int) := of_decide_eq_true (by first | (with_reducible assumption) | assumption); obtain ⟨ad259, e259, hx259_0, hx259_1, hx259_2, hx259_3, hx259_4, hx259_5⟩ := at_T53 HR0.out t258 p259 q259; obtain rfl : ad256 = ad259 := (by injection e259); replace hx259_0 := (HB.out.cell (World.block_lt_of_cell? w _ hx259_0)).trans hx259_0; replace hx259_1 := (HB.out.cell (World.block_lt_of_cell? w _ hx259_1)).trans hx259_1; replace hx259_2 := (HB.out.cell (World.block_lt_of_cell? w _ hx259_2)).trans hx259_2; replace hx259_3 := (HB.out.cell (World.block_lt_of_cell? w _ hx259_3)).trans hx259_3; replace hx259_4 := (HB.out.cell (World.block_lt_of_cell? w _ hx259_4)).trans hx259_4; replace hx259_5 := (HB.out.cell (World.block_lt_of_cell? w _ hx259_5)).trans hx259_5; replace p259 := eq_true p259; replace q259 := eq_true q259; have p260 : 0 ≤ (x3_1 : Int) := of_decide_eq_true (by first | (with_reducible assumption) | assumption); have q260 : x3_1 < (l0.length : Int) := of_decide_eq_true (by first | (with_reducible assumption) | assumption); obtain ⟨ad260, e260, hx260_0, hx260_1, hx260_2, hx260_3, hx260_4, hx260_5⟩ := at_T53 HR0.out x3_1 p260 q260; obtain rfl : ad256 = ad260 := (by injection e260); replace hx260_0 := (HB.out.cell (World.block_lt_of_cell? w _ hx260_0)).trans hx260_0; replace hx260_1 := (HB.out.cell (World.block_lt_of_cell? w _ hx260_1)).trans hx260_1; replace hx260_2 := (HB.out.cell (World.block_lt_of_cell? w _ hx260_2)).trans hx260_2; replace hx260_3 := (HB.out.cell (World.block_lt_of_cell? w _ hx260_3)).trans hx260_3; replace hx260_4 := (HB.out.cell (World.block_lt_of_cell? w _ hx260_4)).trans hx260_4; replace hx260_5 := (HB.out.cell (World.block_lt_of_cell? w _ hx260_5)).trans hx260_5; replace p260 := eq_true p260; replace q260 := eq_true q260))
           repeat (go_quiet (first | (go_at_call 39; (with_reducible refine (redpencilref14_Find.calls k1 _ _ l0 ((rd_T53 l0 x3_1).f1.f0) ((rd_T53 l0 x3_1).f1.f1) t258 _ ?side1 ?side2 A8.out).mono ?_); (case side1 => repeat (first | exact (Kd.C_below HR0.out HB.out) | (with_reducible refine Kd.C_alloc ?_ _) | (with_reducible refine Kd.C_drewN ?_ _) | (with_reducible refine Kd.C_drew ?_))); (case side2 => exact HC0.out); rintro e w15 ⟨rfl, hb⟩; have n0_ := Aside0.mk (below_step (by repeat (first | (with_reducible first | exact HB.out | apply below_alloc | apply pw_below_drewN | apply below_drew1) | exact HB.out)) hb); clear HB; have HB := n0_; clear n0_; (try clear hb); (try clear hb2); (try clear hk); (try clear hi); have p259 : 0 ≤ (t258 : Int) := of_decide_eq_true (by first | (with_reducible assumption) | assumption); have q259 : t258 < (l0.length : Int) := of_decide_eq_true (by first | (with_reducible assumption) | assumption); obtain ⟨ad259, e259, hx259_0, hx259_1, hx259_2, hx259_3, hx259_4, hx259_5⟩ := at_T53 HR0.out t258 p259 q259; obtain rfl : ad256 = ad259 := (by injection e259); replace hx259_0 := (HB.out.cell (World.block_lt_of_cell? w _ hx259_0)).trans hx259_0; replace hx259_1 := (HB.out.cell (World.block_lt_of_cell? w _ hx259_1)).trans hx259_1; replace hx259_2 := (HB.out.cell (World.block_lt_of_cell? w _ hx259_2)).trans hx259_2; replace hx259_3 := (HB.out.cell (World.block_lt_of_cell? w _ hx259_3)).trans hx259_3; replace hx259_4 := (HB.out.cell (World.block_lt_of_cell? w _ hx259_4)).trans hx259_4; replace hx259_5 := (HB.out.cell (World.block_lt_of_cell? w _ hx259_5)).trans hx259_5; replace p259 := eq_true p259; replace q259 := eq_true q259; have p260 : 0 ≤ (x3_1 : Int) := of_decide_eq_true (by first | (with_reducible assumption) | assumption); have q260 : x3_1 < (l0.length : Int) := of_decide_eq_true (by first | (with_reducible assumption) | assumption); obtain ⟨ad260, e260, hx260_0, hx260_1, hx260_2, hx260_3, hx260_4, hx260_5⟩ := at_T53 HR0.out x3_1 p260 q260; obtain rfl : ad256 = ad260 := (by injection e260); replace hx260_0 := (HB.out.cell (World.block_lt_of_cell? w _ hx260_0)).trans hx260_0; replace hx260_1 := (HB.out.cell (World.block_lt_of_cell? w _ hx260_1)).trans hx260_1; replace hx260_2 := (HB.out.cell (World.block_lt_of_cell? w _ hx260_2)).trans hx260_2; replace hx260_3 := (HB.out.cell (World.block_lt_of_cell? w _ hx260_3)).trans hx260_3; replace hx260_4 := (HB.out.cell (World.block_lt_of_cell? w _ hx260_4)).trans hx260_4; replace hx260_5 := (HB.out.cell (World.block_lt_of_cell? w _ hx260_5)).trans hx260_5; replace p260 := eq_true p260; replace q260 := eq_true q260)); try go_wp2_with (first | (go_at_call 39; (with_reducible refine (redpencilref14_Find.calls k1 _ _ l0 ((rd_T53 l0 x3_1).f1.f0) ((rd_T53 l0 x3_1).f1.f1) t258 _ ?side1 ?side2 A8.out).mono ?_); (case side1 => repeat (first | exact (Kd.C_below HR0.out HB.out) | (with_reducible refine Kd.C_alloc ?_ _) | (with_reducible refine Kd.C_drewN ?_ _) | (with_reducible refine Kd.C_drew ?_))); (case side2 => exact HC0.out); rintro e w15 ⟨rfl, hb⟩; have n0_ := Aside0.mk (below_step (by repeat (first | (with_reducible first | exact HB.out | apply below_alloc | apply pw_below_drewN | apply below_drew1) | exact HB.out)) hb); clear HB; have HB := n0_; clear n0_; (try clear hb); (try clear hb2); (try clear hk); (try clear hi); have p259 : 0 ≤ (t258 : Int) := of_decide_eq_true (by first | (with_reducible assumption) | assumption); have q259 : t258 < (l0.length : Int) := of_decide_eq_true (by first | (with_reducible assumption) | assumption); obtain ⟨ad259, e259, hx259_0, hx259_1, hx259_2, hx259_3, hx259_4, hx259_5⟩ := at_T53 HR0.out t258 p259 q259; obtain rfl : ad256 = ad259 := (by injection e259); replace hx259_0 := (HB.out.cell (World.block_lt_of_cell? w _ hx259_0)).trans hx259_0; replace hx259_1 := (HB.out.cell (World.block_lt_of_cell? w _ hx259_1)).trans hx259_1; replace hx259_2 := (HB.out.cell (World.block_lt_of_cell? w _ hx259_2)).trans hx259_2; replace hx259_3 := (HB.out.cell (World.block_lt_of_cell? w _ hx259_3)).trans hx259_3; replace hx259_4 := (HB.out.cell (World.block_lt_of_cell? w _ hx259_4)).trans hx259_4; replace hx259_5 := (HB.out.cell (World.block_lt_of_cell? w _ hx259_5)).trans hx259_5; replace p259 := eq_true p259; replace q259 := eq_true q259; have p260 : 0 ≤ (x3_1 : Int) := of_decide_eq_true (by first | (with_reducible assumption) | assumption); have q260 : x3_1 < (l0.length : Int) := of_decide_eq_true (by first | (with_reducible assumption) | assumption); obtain ⟨ad260, e260, hx260_0, hx260_1, hx260_2, hx260_3, hx260_4, hx260_5⟩ := at_T53 HR0.out x3_1 p260 q260; obtain rfl : ad256 = ad260 := (by injection e260); replace hx260_0 := (HB.out.cell (World.block_lt_of_cell? w _ hx260_0)).trans hx260_0; replace hx260_1 := (HB.out.cell (World.block_lt_of_cell? w _ hx260_1)).trans hx260_1; replace hx260_2 := (HB.out.cell (World.block_lt_of_cell? w _ hx260_2)).trans hx260_2; replace hx260_3 := (HB.out.cell (World.block_lt_of_cell? w _ hx260_3)).trans hx260_3; replace hx260_4 := (HB.out.cell (World.block_lt_of_cell? w _ hx260_4)).trans hx260_4; replace hx260_5 := (HB.out.cell (World.block_lt_of_cell? w _ hx260_5)).trans hx260_5; replace p260 := eq_true p260; replace q260 := eq_true q260)))
           go_roundg k1
           case measure => have := HK1.out; omega
           case rel => exact ⟨(wrap64 (x3_1 + 1)), (by first | rfl | (simp; done) | (simp [*]; done)), H', ⟨by have := HK1.out; omega⟩, ⟨by repeat (first | (with_reducible first | exact HB.out | apply below_alloc | apply pw_below_drewN | apply below_drew1) | exact HB.out)⟩⟩
         ·
          rw [if_neg c12] at H
          exact absurd H (by simp)
        ·
         rw [if_neg c11] at H
         exact absurd H (by simp)
     ·
      rw [if_neg c6] at H
      exact absurd H (by simp)
    ·
     rw [if_neg c5] at H
     have c5b0 : decide (x3_1 < (l0.length : Int)) = false := decide_eq_false c5
     clear c5
     obtain rfl := Option.some.inj H
     go_wp2
     repeat (go_quiet (fail); try go_wp2)
     go_ret
     exact ⟨by first | rfl | (simp [errW_none, errW_some] <;> rfl) | (simp [*, errW_none, errW_some] <;> rfl), by repeat (first | (with_reducible first | exact HB.out | apply below_alloc | apply pw_below_drewN | apply below_drew1) | exact HB.out)⟩
 ·
  replace c3 := Bool.eq_false_iff.mpr c3
  subst c3
  have H1 : (some false) = some r := by rw [if_neg (show ¬ (false = true) by decide)] at H; exact H
  clear H
  have H := H1
  clear H1
  obtain rfl := Option.some.inj H
  go_enter Tryz.func35, Tryz.ntmps35
  go_wp2_with (first | (go_at_call 26; (with_reducible refine (redpencilref14_Store.calls _ _ l0 false _ ?side1 ?side2 A2.out).mono ?_); (case side1 => repeat (first | exact HR0.out | (with_reducible refine Kd.C_alloc ?_ _) | (with_reducible refine Kd.C_drewN ?_ _) | (with_reducible refine Kd.C_drew ?_))); (case side2 => exact HC0.out); rintro e w16 ⟨rfl, hb⟩; have n0_ := Aside0.mk (below_step (by repeat (first | (with_reducible first | exact HB.out | apply below_alloc | apply pw_below_drewN | apply below_drew1) | exact HB.out)) hb); clear HB; have HB := n0_; clear n0_; (try clear hb); (try clear hb2); (try clear hk); (try clear hi)))
  repeat (go_quiet (first | (go_at_call 26; (with_reducible refine (redpencilref14_Store.calls _ _ l0 false _ ?side1 ?side2 A2.out).mono ?_); (case side1 => repeat (first | exact HR0.out | (with_reducible refine Kd.C_alloc ?_ _) | (with_reducible refine Kd.C_drewN ?_ _) | (with_reducible refine Kd.C_drew ?_))); (case side2 => exact HC0.out); rintro e w16 ⟨rfl, hb⟩; have n0_ := Aside0.mk (below_step (by repeat (first | (with_reducible first | exact HB.out | apply below_alloc | apply pw_below_drewN | apply below_drew1) | exact HB.out)) hb); clear HB; have HB := n0_; clear n0_; (try clear hb); (try clear hb2); (try clear hk); (try clear hi))); try go_wp2_with (first | (go_at_call 26; (with_reducible refine (redpencilref14_Store.calls _ _ l0 false _ ?side1 ?side2 A2.out).mono ?_); (case side1 => repeat (first | exact HR0.out | (with_reducible refine Kd.C_alloc ?_ _) | (with_reducible refine Kd.C_drewN ?_ _) | (with_reducible refine Kd.C_drew ?_))); (case side2 => exact HC0.out); rintro e w16 ⟨rfl, hb⟩; have n0_ := Aside0.mk (below_step (by repeat (first | (with_reducible first | exact HB.out | apply below_alloc | apply pw_below_drewN | apply below_drew1) | exact HB.out)) hb); clear HB; have HB := n0_; clear n0_; (try clear hb); (try clear hb2); (try clear hk); (try clear hi))))
  go_ret
  exact ⟨by first | rfl | (simp [errW_none, errW_some] <;> rfl) | (simp [*, errW_none, errW_some] <;> rfl), by repeat (first | (with_reducible first | exact HB.out | apply below_alloc | apply pw_below_drewN | apply below_drew1) | exact HB.out)⟩
end Go.Proofs.YtmbndijbpgobeaaGreat.PWalk
end
section
namespace Go.Proofs.YtmbndijbpgobeaaGreat.PWalk
open Go.RowKit Go.Proofs.YtmbndijbpgobeaaGreatW.PrintWords Go.Proofs.YtmbndijbpgobeaaGreatW.PrintLast Go.Proofs.YtmbndijbpgobeaaGreatW.PrintMore
set_option linter.unusedVariables false
set_option linter.unusedSimpArgs false
open Go.Shelf
attribute [local go_sem] Oper.semAt_some
def agreeJ (x y : Node) : Bool := decide (x.f0 = y.f0 ∧ x.f1 = y.f1 ∧ x.f2 = y.f2 ∧ (x.f3 = 0 ∨ y.f3 = 0 ∨ x.f3 = y.f3))
def mergeJ (x y : Node) : Node := if agreeJ x y = true then (if y.f3 = 0 then y else x) else nodeZ
theorem ne_dot (a b : Dot) : (!(a.f0 == b.f0) || !(a.f1 == b.f1)) = decide (a ≠ b) := by
 rw [Bool.eq_iff_iff]
 simp only [Bool.or_eq_true, Bool.not_eq_true', beq_eq_false_iff_ne, decide_eq_true_eq, ne_eq, Dot.ext_iff']
 by_cases h1 : a.f0 = b.f0 <;> by_cases h2 : a.f1 = b.f1 <;> simp [h1, h2]
attribute [local go_sem high] eqA25
set_option maxHeartbeats 1000000 in
set_option maxRecDepth 100000 in
theorem merge14_call (x y : Node) (w : World) :
  Calls Tryz.prog 59 #[vNode x, vNode y] w fun e w' => e = .returned (.tuple #[vNode (mergeJ x y), .bool (agreeJ x y)]) ∧ Below w.heap.size w w' := by
 have HB := Aside0.mk (below_alloc (below_alloc (below_alloc (Below.refl _ w) (boxN x)) (boxN y)) boxZ)
 have HXA := Aside0.mk (blk_keep (blk_new w (boxN x)) ((Gr.alloc (w.alloc (boxN x)) (boxN y)).trans (Gr.alloc _ boxZ)).below)
 have hxb := blk_keep (blk_new (w.alloc (boxN x)) (boxN y)) (Gr.alloc ((w.alloc (boxN x)).alloc (boxN y)) boxZ).below
 have hxz := blk_new ((w.alloc (boxN x)).alloc (boxN y)) boxZ
 rw [show (w.alloc (boxN x)).heap.size = w.heap.size + 1 by simp] at hxb
 rw [show ((w.alloc (boxN x)).alloc (boxN y)).heap.size = w.heap.size + 2 by simp] at hxz
 have HXZ := Aside0.mk hxz
 obtain ⟨x0, x1, x2, x3, x4, x5⟩ := box_six HXA.out
 obtain ⟨y0, y1, y2, y3, y4, y5⟩ := box_six hxb
 clear hxb hxz
 have hu2 := Tryz.underlying25
 go_enter Tryz.func59, Tryz.ntmps59
 go_upto_region 1 with (fail)
 generalize ((w.alloc (boxN x)).alloc (boxN y)).alloc boxZ = W3 at *
 by_cases h0 : x.f0 = y.f0
 rotate_left
 ·
  have g0 := (ne_dot x.f0 y.f0).trans (show decide (x.f0 ≠ y.f0) = true from decide_eq_true h0)
  have HA : Aside0 (agreeJ x y = false) := ⟨decide_eq_false (fun h => h0 h.1)⟩
  go_upto_region 2 with (fail)
  clear x0 x1 x2 x3 x4 x5 y0 y1 y2 y3 y4 y5
  go_wp2_with (refine wpList_boxNode rfl (.tmp 4) (.tmp 42) rfl rfl HXZ.out nodeZ rfl rfl ?_; intro V4 hz4 hg4)
  have HB4 := Aside0.mk (grown_on hg4 HB.out (fun k e => by cases e; exact Nat.le_add_right _ _))
  have HZ4 := Aside0.mk hz4
  refine bodyPost_ret (results_box rfl _ _ _ _ _ _ _ _ _ rfl HZ4.out) rfl ?_
  exact ⟨by unfold mergeJ; rw [HA.out]; rfl, HB4.out⟩
 have g0 := (ne_dot x.f0 y.f0).trans (show decide (x.f0 ≠ y.f0) = false from decide_eq_false (fun h => h h0))
 by_cases h1 : x.f1 = y.f1
 rotate_left
 ·
  have g1 := (ne_dot x.f1 y.f1).trans (show decide (x.f1 ≠ y.f1) = true from decide_eq_true h1)
  have HA : Aside0 (agreeJ x y = false) := ⟨decide_eq_false (fun h => h1 h.2.1)⟩
  go_upto_region 2 with (fail)
  clear x0 x1 x2 x3 x4 x5 y0 y1 y2 y3 y4 y5
  go_wp2_with (refine wpList_boxNode rfl (.tmp 4) (.tmp 42) rfl rfl HXZ.out nodeZ rfl rfl ?_; intro V4 hz4 hg4)
  have HB4 := Aside0.mk (grown_on hg4 HB.out (fun k e => by cases e; exact Nat.le_add_right _ _))
  have HZ4 := Aside0.mk hz4
  refine bodyPost_ret (results_box rfl _ _ _ _ _ _ _ _ _ rfl HZ4.out) rfl ?_
  exact ⟨by unfold mergeJ; rw [HA.out]; rfl, HB4.out⟩
 have g1 := (ne_dot x.f1 y.f1).trans (show decide (x.f1 ≠ y.f1) = false from decide_eq_false (fun h => h h1))
 by_cases h2 : x.f2 = y.f2
 rotate_left
 ·
  have p2 : (x.f2 != y.f2) = true := by simpa using h2
  have r2 : (x.f2 == y.f2) = false := by simpa using h2
  have HA : Aside0 (agreeJ x y = false) := ⟨decide_eq_false (fun h => h2 h.2.2.1)⟩
  go_upto_region 2 with (fail)
  clear x0 x1 x2 x3 x4 x5 y0 y1 y2 y3 y4 y5
  go_wp2_with (refine wpList_boxNode rfl (.tmp 4) (.tmp 42) rfl rfl HXZ.out nodeZ rfl rfl ?_; intro V4 hz4 hg4)
  have HB4 := Aside0.mk (grown_on hg4 HB.out (fun k e => by cases e; exact Nat.le_add_right _ _))
  have HZ4 := Aside0.mk hz4
  refine bodyPost_ret (results_box rfl _ _ _ _ _ _ _ _ _ rfl HZ4.out) rfl ?_
  exact ⟨by unfold mergeJ; rw [HA.out]; rfl, HB4.out⟩
 have p2 : (x.f2 != y.f2) = false := by simpa using h2
 have r2 : (x.f2 == y.f2) = true := by simpa using h2
 by_cases hx : x.f3 = 0
 rotate_left
 ·
  have p3 : (x.f3 != 0) = true := by simpa using hx
  have r3 : (x.f3 == 0) = false := by simpa using hx
  by_cases hy : y.f3 = 0
  ·
   have p4 : (y.f3 != 0) = false := by simpa using hy
   have r4 : (y.f3 == 0) = true := by simpa using hy
   have HA : Aside0 (agreeJ x y = true) := ⟨decide_eq_true ⟨h0, h1, h2, .inr (.inl hy)⟩⟩
   go_upto_region 4 with (fail)
   have HYA := Aside0.mk hy
   (try clear he p5 r5)
   clear x0 x1 x2 x3 x4 x5 h0 h1 h2 g0 g1 p2 r2 p3 r3 p4 r4 hx hy
   go_wp2_with (refine wpList_boxNode rfl (.tmp 4) (.tmp 46) rfl rfl HXZ.out y rfl rfl ?_; intro V4 hz4 hg4)
   have HB4 := Aside0.mk (grown_on hg4 HB.out (fun k e => by cases e; exact Nat.le_add_right _ _))
   have HZ4 := Aside0.mk hz4
   refine bodyPost_ret (results_box rfl _ _ _ _ _ _ _ _ _ rfl HZ4.out) rfl ?_
   exact ⟨by unfold mergeJ; rw [HA.out]; rw [if_pos rfl, if_pos HYA.out]; rfl, HB4.out⟩
  have p4 : (y.f3 != 0) = true := by simpa using hy
  have r4 : (y.f3 == 0) = false := by simpa using hy
  by_cases he : x.f3 = y.f3
  ·
   have p5 : (x.f3 != y.f3) = false := by simpa using he
   have r5 : (x.f3 == y.f3) = true := by simpa using he
   have HA : Aside0 (agreeJ x y = true) := ⟨decide_eq_true ⟨h0, h1, h2, .inr (.inr he)⟩⟩
   go_upto_region 5 with (fail)
   have HYA := Aside0.mk hy
   (try clear he p5 r5)
   clear y0 y1 y2 y3 y4 y5 h0 h1 h2 g0 g1 p2 r2 p3 r3 p4 r4 hx hy
   go_wp2_with (refine wpList_boxNode rfl (.tmp 4) (.tmp 47) rfl rfl HXZ.out x rfl rfl ?_; intro V4 hz4 hg4)
   have HB4 := Aside0.mk (grown_on hg4 HB.out (fun k e => by cases e; exact Nat.le_add_right _ _))
   have HZ4 := Aside0.mk hz4
   refine bodyPost_ret (results_box rfl _ _ _ _ _ _ _ _ _ rfl HZ4.out) rfl ?_
   exact ⟨by unfold mergeJ; rw [HA.out]; rw [if_pos rfl, if_neg HYA.out]; rfl, HB4.out⟩
  ·
   have p5 : (x.f3 != y.f3) = true := by simpa using he
   have r5 : (x.f3 == y.f3) = false := by simpa using he
   have HA : Aside0 (agreeJ x y = false) := ⟨decide_eq_false (fun h => by rcases h.2.2.2 with h | h | h; exact hx h; exact hy h; exact he h)⟩
   go_upto_region 2 with (fail)
   clear x0 x1 x2 x3 x4 x5 y0 y1 y2 y3 y4 y5
   go_wp2_with (refine wpList_boxNode rfl (.tmp 4) (.tmp 42) rfl rfl HXZ.out nodeZ rfl rfl ?_; intro V4 hz4 hg4)
   have HB4 := Aside0.mk (grown_on hg4 HB.out (fun k e => by cases e; exact Nat.le_add_right _ _))
   have HZ4 := Aside0.mk hz4
   refine bodyPost_ret (results_box rfl _ _ _ _ _ _ _ _ _ rfl HZ4.out) rfl ?_
   exact ⟨by unfold mergeJ; rw [HA.out]; rfl, HB4.out⟩
 by_cases hy : y.f3 = 0
 ·
  have p4 : (y.f3 != 0) = false := by simpa using hy
  have r4 : (y.f3 == 0) = true := by simpa using hy
  have p3 : (x.f3 != 0) = false := by simpa using hx
  have r3 : (x.f3 == 0) = true := by simpa using hx
  have HA : Aside0 (agreeJ x y = true) := ⟨decide_eq_true ⟨h0, h1, h2, .inl hx⟩⟩
  go_upto_region 4 with (fail)
  have HYA := Aside0.mk hy
  (try clear he p5 r5)
  clear x0 x1 x2 x3 x4 x5 h0 h1 h2 g0 g1 p2 r2 p3 r3 p4 r4 hx hy
  go_wp2_with (refine wpList_boxNode rfl (.tmp 4) (.tmp 46) rfl rfl HXZ.out y rfl rfl ?_; intro V4 hz4 hg4)
  have HB4 := Aside0.mk (grown_on hg4 HB.out (fun k e => by cases e; exact Nat.le_add_right _ _))
  have HZ4 := Aside0.mk hz4
  refine bodyPost_ret (results_box rfl _ _ _ _ _ _ _ _ _ rfl HZ4.out) rfl ?_
  exact ⟨by unfold mergeJ; rw [HA.out]; rw [if_pos rfl, if_pos HYA.out]; rfl, HB4.out⟩
 ·
  have p4 : (y.f3 != 0) = true := by simpa using hy
  have r4 : (y.f3 == 0) = false := by simpa using hy
  have p3 : (x.f3 != 0) = false := by simpa using hx
  have r3 : (x.f3 == 0) = true := by simpa using hx
  have HA : Aside0 (agreeJ x y = true) := ⟨decide_eq_true ⟨h0, h1, h2, .inl hx⟩⟩
  go_upto_region 5 with (fail)
  have HYA := Aside0.mk hy
  (try clear he p5 r5)
  clear y0 y1 y2 y3 y4 y5 h0 h1 h2 g0 g1 p2 r2 p3 r3 p4 r4 hx hy
  go_wp2_with (refine wpList_boxNode rfl (.tmp 4) (.tmp 47) rfl rfl HXZ.out x rfl rfl ?_; intro V4 hz4 hg4)
  have HB4 := Aside0.mk (grown_on hg4 HB.out (fun k e => by cases e; exact Nat.le_add_right _ _))
  have HZ4 := Aside0.mk hz4
  refine bodyPost_ret (results_box rfl _ _ _ _ _ _ _ _ _ rfl HZ4.out) rfl ?_
  exact ⟨by unfold mergeJ; rw [HA.out]; rw [if_pos rfl, if_neg HYA.out]; rfl, HB4.out⟩
end Go.Proofs.YtmbndijbpgobeaaGreat.PWalk
end
section
namespace Go.Proofs.YtmbndijbpgobeaaGreat.PWalk
open Go.RowKit Go.Proofs.YtmbndijbpgobeaaGreatW.PrintWords Go.Proofs.YtmbndijbpgobeaaGreatW.PrintLast Go.Proofs.YtmbndijbpgobeaaGreatW.PrintMore
set_option linter.unusedVariables false
set_option linter.unusedSimpArgs false
open Go.Shelf
attribute [local go_sem] Oper.semAt_some
theorem op_putNode {o : Oper} {a : Act} {K : Act → World → Prop} {Q : Exit → Act → World → Prop} (s x : Operand) (ho : o.op = .store 53 s x) (hd : o.dst = none) {w : World} {base g n cap i : Nat} {l : List Node} (y : Node)
  (h : Kd.R k53 53 w base (fun _ => True) (.slice (some ⟨g, 0, none⟩) n cap) l) (hi : i < n) (hs : a.eval s = .pointer (some ⟨g, i * 6, none⟩)) (hx : a.eval x = vNode y)
  (hk : ∀ w', Kd.R k53 53 w' base (fun _ => True) (.slice (some ⟨g, 0, none⟩) n cap) (l.set i y) → w.grownBy w' (some g) → K a w') : o.wp Tryz.prog a w K Q := by
 obtain ⟨w', h1, h2, h3⟩ := row_put y h hi
 unfold Oper.wp execOp
 simp only [ho, hs, hx, Instr.storeAt, Instr.sureAddr, Sem.run_bind, Sem.run_pure, Result.andThen_ok, h1]
 show K (a.put o.dst undef) w'
 rw [hd]
 exact hk w' h2 h3
theorem jfind_from (l : List Node) (hl : l.length ≤ 1000000) (d : Dot) : ∀ (q k i : Nat), i + q = l.length → q < k → redpencilref14_Find.l0 k l (i : Int) d.f0 d.f1 = some (match (l.drop i).findIdx? (dotIs d) with | some j => ((i + j : Nat) : Int) | none => -1) := by
 intro q
 induction q with
 | zero =>
  intro k i hi hk
  obtain ⟨k, rfl⟩ : ∃ m, k = m + 1 := ⟨k - 1, by omega⟩
  simp only [redpencilref14_Find.l0]
  rw [if_neg (by omega), List.drop_of_length_le (by omega)]
  rfl
 | succ q ih =>
  intro k i hi hk
  obtain ⟨k, rfl⟩ : ∃ m, k = m + 1 := ⟨k - 1, by omega⟩
  have hlt : i < l.length := by omega
  simp only [redpencilref14_Find.l0]
  rw [if_pos (by omega), if_pos (by omega), rdN hlt, wrap_succ hlt hl, List.drop_eq_getElem_cons hlt, List.findIdx?_cons]
  change (if dotIs d l[i] = true then _ else _) = _
  by_cases e : dotIs d l[i] = true
  ·
   rw [if_pos e, if_pos e]
   simp
  ·
   rw [if_neg e, if_neg e, ih k (i + 1) (by omega) (by omega)]
   cases (l.drop (i + 1)).findIdx? (dotIs d) with
   | none => rfl
   | some j =>
    show some (((i + 1 + j : Nat)) : Int) = some (((i + (j + 1) : Nat)) : Int)
    rw [show i + 1 + j = i + (j + 1) by omega]
theorem jfind_is (l : List Node) (hl : l.length ≤ 1000000) (d : Dot) {k : Nat} (hk : l.length < k) : redpencilref14_Find.f k l d.f0 d.f1 = some (idxFrom (dotIs d) l) := by
 have := jfind_from l hl d l.length k 0 (by omega) hk
 unfold redpencilref14_Find.f idxFrom
 rw [show ((0 : Nat) : Int) = 0 from rfl] at this
 rw [this, List.drop_zero]
 cases l.findIdx? (dotIs d) with
 | none => rfl
 | some j => simp
def stepJ (o : List Node) (y : Node) : List Node := match o.findIdx? (dotIs y.f0) with | some k => o.set k (mergeJ (o.getD k nodeZ) y) | none => insP y o
/-- The reference's join. -/
def joinJ (a b : List Node) : List Node := b.foldl stepJ a
def redpencilref14_Join.f (l0 l1 : List Node) : Option (List Node) := if l0.length + l1.length ≤ 200000 then some (joinJ l0 l1) else none
theorem joinJ_succ {a b : List Node} {k : Nat} {y : Node} (h : b[k]? = some y) : joinJ a (b.take (k + 1)) = stepJ (joinJ a (b.take k)) y := by
 obtain ⟨hk, e⟩ := List.getElem?_eq_some_iff.1 h
 unfold joinJ
 rw [List.take_succ_eq_append_getElem hk, List.foldl_append, e]
 rfl
theorem insP_length (x : Node) (l : List Node) : (insP x l).length = l.length + 1 := by
 unfold insP
 have := congrArg List.length (List.takeWhile_append_dropWhile (p := fun y : Node => dotLt y.f0 x.f0) (l := l))
 rw [List.length_append] at this
 rw [List.length_append, List.length_append, List.length_singleton]
 omega
/-- What has come up where a node is merged. -/
structure JJ (w : World) (o : List Node) (k : Nat) (z : Node) (v : Value) (l5 l15 : Bool) (V : World) : Prop where
 ord : l15 = true → l5 = true
 below : Below w.heap.size w V
 r1 : l15 = false → RN V w.heap.size v o
 r2 : l15 = true → RN V w.heap.size v (o.set k z)
def jj7Inv (W0 : World) (ad : Addr) (go no co nb c1 k p : Nat) (x y : Node) (o : List Node) (z0 z2 z3 z4 z8 z9 z10 z11 z12 z13 z14 z15 z16 z17 z18 z19 z20 z21 z22 z23 z24 z25 z26 z27 z28 z29 z30 z31 z32 z33 z34 z35 z36 z37 z38 z39 z40 z41 z42 z43 z44 z45 z46 : Value) (L : Array Bool) (ac : Act) (V : World) : Prop := ∃ (l0 l1 l2 l3 l4 l5 l6 l7 l8 l9 l10 l11 l12 l13 l14 l15 : Bool), L = #[l0, l1, l2, l3, l4, l5, l6, l7, l8, l9, l10, l11, l12, l13, l14, l15] ∧ ac = { tmps := #[z0, .slice (some ad) nb c1, z2, z3, z4, .slice (some ⟨go, 0, none⟩) no co, .int .i64 (k : Int), .int .i64 (p : Int), z8, z9, z10, z11, z12, z13, z14, z15, z16, z17, z18, z19, z20, z21, z22, z23, z24, selv l11 (.tuple #[vNode (mergeJ x y), .bool (agreeJ x y)]) (z25), selv l0 (.slice (some ⟨go, 0, none⟩) no co) (z26), selv l1 (.int .i64 (p : Int)) (z27), selv l2 (.slice (some ⟨go, 0, none⟩) no co) (z28), selv l3 (.int .i64 (p : Int)) (z29), selv l4 (.pointer (some ⟨go, p * 6, none⟩)) (z30), selv l5 (vNode x) (z31), selv l6 (.slice (some ad) nb c1) (z32), selv l7 (.int .i64 (k : Int)) (z33), selv l8 (.pointer (some (ad.add (k * 6)))) (z34), selv l9 (vNode y) (z35), selv l10 (.tuple #[vNode (mergeJ x y), .bool (agreeJ x y)]) (z36), selv l12 (vNode (mergeJ x y)) (z37), selv l13 (.bool (agreeJ x y)) (z38), selv l14 (.pointer (some ⟨go, p * 6, none⟩)) (z39), z40, z41, z42, z43, z44, z45, z46], defers := [] } ∧ Aside0 (JJ W0 o p (mergeJ x y) (.slice (some ⟨go, 0, none⟩) no co) l5 l15 V)
set_option maxHeartbeats 4000000 in
set_option maxRecDepth 100000 in
theorem redpencilref14_Join.calls (A0 : Option Addr) (c0 : Nat) (l0 : List Node) (A1 : Option Addr) (c1 : Nat) (l1 : List Node) (r : List Node) (w : World) (hr0 : Kd.C k53 w A0 l0.length l0) (hc0 : l0.length ≤ c0) (hr1 : Kd.C k53 w A1 l1.length l1) (hc1 : l1.length ≤ c1) (h : redpencilref14_Join.f l0 l1 = some r) :
  Calls Tryz.prog 28 #[.slice A0 l0.length c0, .slice A1 l1.length c1] w fun e w' => ∃ v0_ : Value, e = .returned v0_ ∧ Kd.R k53 53 w' w.heap.size (fun _ => True) v0_ r ∧ Below w.heap.size w w' := by
 unfold redpencilref14_Join.f at h
 by_cases hl : l0.length + l1.length ≤ 200000
 rotate_left
 ·
  rw [if_neg hl] at h; cases h
 rw [if_pos hl] at h
 obtain rfl := Option.some.inj h
 have HL := Aside0.mk hl
 have HR := Aside0.mk hr0
 have HR1 := Aside0.mk hr1
 obtain ⟨na, Ha⟩ : ∃ n, Aside0 (l0.length = n) := ⟨_, ⟨rfl⟩⟩
 obtain ⟨nb, Hb⟩ : ∃ n, Aside0 (l1.length = n) := ⟨_, ⟨rfl⟩⟩
 rw [Ha.out, Hb.out] at HL
 rw [Ha.out] at HR
 rw [Hb.out] at HR1
 rw [Ha.out, Hb.out]
 have hu := Tryz.underlying53
 have hu2 := Tryz.underlying25
 clear h hl hr0 hr1 hc0 hc1
 go_enter Tryz.func28, Tryz.ntmps28
 go_wp2_with (at_builtin; refine app_rows Tryz.underlying23 w.heap.size rfl (.const (.slice none 0 0)) (.tmp 8) rfl (.slice none 0 0) [] l0 A0 na c0 rfl rfl (Kd.R_nil _ _ _ _ _) HR.out (Nat.le_refl _) (by have := HL.out; simp only [List.length_nil]; omega) ?_; intro v1 W1 hr1 hg1)
 rw [List.nil_append] at hr1
 obtain ⟨A5, c5, rfl⟩ := RN.slice hr1
 rw [Ha.out] at hr1 ⊢
 have HO0 := Aside0.mk hr1
 have HB0 := Aside0.mk (grown_nil hg1)
 clear hr1 hg1
 go_loopw [5, 6] (fun s i wr => ∃ (k : Nat) (Ao : Option Addr) (no co : Nat), s = .slice Ao no co ∧ i = .int .i64 k ∧ k ≤ nb ∧ Aside0 (RN wr w.heap.size (.slice Ao no co) (joinJ l0 (l1.take k))) ∧ Aside0 (no ≤ na + k) ∧ Aside0 (Below w.heap.size w wr)) (fun _ i _ => nb - (intOf i).toNat)
 case atStart => exact ⟨0, A5, na, c5, rfl, rfl, Nat.zero_le _, HO0, ⟨Nat.le_refl _⟩, HB0⟩
 case round =>
  obtain ⟨k, Ao, no, co, rfl, rfl, hk, HO, HNO, HB⟩ := hrel
  clear HO0 HB0
  by_cases hlt : k < nb
  ·
   obtain ⟨y, Hy⟩ : ∃ y, Aside0 (l1[k]? = some y) := ⟨_, ⟨List.getElem?_eq_getElem (by rw [Hb.out]; exact hlt)⟩⟩
   have HST := Aside0.mk (joinJ_succ (a := l0) Hy.out)
   obtain ⟨o, Ho⟩ : ∃ o, Aside0 (joinJ l0 (l1.take k) = o) := ⟨_, ⟨rfl⟩⟩
   rw [Ho.out] at HO HST
   have HK : Aside0 (k < nb ∧ na + nb ≤ 200000) := ⟨hlt, HL.out⟩
   have HOL : Aside0 (o.length = no) := ⟨(RN.C HO.out).1⟩
   obtain ⟨q, Hq⟩ : ∃ q, Aside0 (idxFrom (dotIs y.f0) o = q) := ⟨_, ⟨rfl⟩⟩
   have HFD := Aside0.mk (redpencilref14_Find.calls (no + 1) Ao co o y.f0.f0 y.f0.f1 q wr (by rw [HOL.out]; exact (RN.C HO.out).2.2) (by rw [HOL.out]; exact (RN.C HO.out).2.1) (by rw [jfind_is o (by have := HOL.out; have := HNO.out; have := HK.out; omega) y.f0 (by rw [HOL.out]; omega), Hq.out]))
   rw [HOL.out] at HFD
   obtain ⟨ad, e, y0, y1, y2, y3, y4, y5⟩ := node_at HR1.out HB.out k y Hy.out
   subst e
   have hkk := HK.out
   go_wp2_with fail
   clear y0 y1 y2 y3 y4 y5
   refine HFD.out.mono ?_
   rintro e V1 ⟨rfl, hb⟩
   have HO := Aside0.mk (RN.below' HO.out hb)
   have HB := Aside0.mk (below_more HB.out hb)
   clear hb HFD
   cases hf : o.findIdx? (dotIs y.f0) with
   | none =>
    have hq : q = -1 := by rw [← Hq.out]; unfold idxFrom; rw [hf]
    subst hq
    have HSJ : Aside0 (stepJ o y = insP y o) := ⟨by unfold stepJ; rw [hf]⟩
    clear hf
    have HPC := Aside0.mk (put_call Ao no co o y V1 (RN.C HO.out).2.2 (RN.C HO.out).2.1 (by have := HNO.out; have := HK.out; omega))
    obtain ⟨ad', e, y0, y1, y2, y3, y4, y5⟩ := node_at HR1.out HB.out k y Hy.out
    cases e
    go_wp2_with fail
    clear y0 y1 y2 y3 y4 y5
    refine HPC.out.mono ?_
    rintro e V2 ⟨v2, rfl, hr2, hb⟩
    have HO := Aside0.mk (Kd.R_lower hr2 HB.out.size)
    have HB := Aside0.mk (below_more HB.out hb)
    obtain ⟨A3, c3, rfl⟩ := RN.slice HO.out
    have HL3 : Aside0 ((insP y o).length = no + 1) := ⟨by rw [insP_length, HOL.out]⟩
    rw [HL3.out] at HO ⊢
    rw [← HSJ.out, ← HST.out] at HO
    have hkk := HK.out
    clear hr2 hb HPC
    go_wp2
    go_roundw
    case rel => exact ⟨k + 1, A3, no + 1, c3, rfl, by go_num, by omega, HO, ⟨by have := HNO.out; omega⟩, HB⟩
    case measure => simp [intOf]; omega
   | some p =>
    have hq : q = (p : Int) := by rw [← Hq.out]; unfold idxFrom; rw [hf]
    subst hq
    have hp : p < no := by rw [← HOL.out]; exact (List.findIdx?_eq_some_iff_getElem.1 hf).1
    obtain ⟨x, Hx⟩ : ∃ x, Aside0 (o[p]? = some x) := ⟨_, ⟨List.getElem?_eq_getElem (by rw [HOL.out]; exact hp)⟩⟩
    have HSJ : Aside0 (stepJ o y = o.set p (mergeJ x y)) := ⟨by unfold stepJ; rw [hf]; simp [List.getD, Hx.out]⟩
    have HPN : Aside0 (p < no ∧ no ≤ 200000) := ⟨hp, by have := HNO.out; have := HK.out; omega⟩
    obtain ⟨go, c9, e9, _⟩ := Kd.R_form HO.out (by rw [HOL.out]; omega)
    rw [HOL.out] at e9
    cases e9
    clear hf
    have HGO : Aside0 (w.heap.size ≤ go) := ⟨Kd.R_base HO.out go (by simp [Value.ownBlock])⟩
    have gq : decide ((p : Int) ≥ 0) = true := decide_eq_true (by omega)
    go_wp2_with fail
    clear gq
    refine AnyOrder.wp_region (by kernel_rfl) (jj7Inv w ad go no co nb c1 k p x y o _ _ _ _ _ _ _ _ _ _ _ _ _ _ _ _ _ _ _ _ _ _ _ _ _ _ _ _ _ _ _ _ _ _ _ _ _ _ _ _ _ _ _) ⟨false, false, false, false, false, false, false, false, false, false, false, false, false, false, false, false, rfl, rfl, ⟨⟨fun h => (by cases h), below_more HB.out (below_drew1 (Below.refl _ V1)), fun _ => RN.below' HO.out (below_drew1 (Below.refl _ V1)), fun h => (by cases h)⟩⟩⟩ ?step ?last
    case step =>
     rintro L ac V i ⟨l0, l1, l2, l3, l4, l5, l6, l7, l8, l9, l10, l11, l12, l13, l14, l15, rfl, rfl, HF⟩ hi K hK
     rcases AnyOrder.up hi [0, 1, 2, 3, 6, 7, 11, 12, 13, 4, 14, 5, 8, 9, 10, 15] rfl with rfl | rfl | rfl | rfl | rfl | rfl | rfl | rfl | rfl | rfl | rfl | rfl | rfl | rfl | rfl | rfl
     all_goals
      replace hi := AnyOrder.first hi rfl
      repeat (obtain ⟨ha, hi⟩ := hi; first | obtain rfl := ha | clear ha)
      clear hi
      try simp only [sel_true, selv_true] at hK ⊢
     iterate 9
      ·
       refine AnyOrder.wpOp_go rfl (by rfl) ?_
       go_wp2_with fail
       exact ⟨_, _, _, _, _, _, _, _, _, _, _, _, _, _, _, _, rfl, rfl, HF⟩
     iterate 2
      ·
       have hpp := HPN.out
       refine AnyOrder.wpOp_go rfl (by rfl) ?_
       go_wp2_with fail
       exact ⟨_, _, _, _, _, _, _, _, _, _, _, _, _, _, _, _, rfl, rfl, HF⟩
     ·
      obtain rfl : l15 = false := by cases l15 with | false => rfl | true => cases HF.out.ord rfl
      (try simp only [selv_false] at hK ⊢)
      obtain ⟨a', e, q0, q1, q2, q3, q4, q5⟩ := node_at (RN.C (HF.out.r1 rfl)).2.2 (Below.refl _ V) p x Hx.out
      cases e
      rw [add_lit, Nat.zero_add] at q0 q1 q2 q3 q4 q5
      refine AnyOrder.wpOp_go rfl (by rfl) ?_
      go_wp2_with fail
      exact ⟨_, _, _, _, _, _, _, _, _, _, _, _, _, _, _, _, rfl, rfl, ⟨⟨fun _ => rfl, HF.out.below, HF.out.r1, HF.out.r2⟩⟩⟩
     ·
      have hkk := HK.out
      refine AnyOrder.wpOp_go rfl (by rfl) ?_
      go_wp2_with fail
      exact ⟨_, _, _, _, _, _, _, _, _, _, _, _, _, _, _, _, rfl, rfl, HF⟩
     ·
      obtain ⟨a', e, q0, q1, q2, q3, q4, q5⟩ := node_at HR1.out HF.out.below k y Hy.out
      cases e
      refine AnyOrder.wpOp_go rfl (by rfl) ?_
      go_wp2_with fail
      exact ⟨_, _, _, _, _, _, _, _, _, _, _, _, _, _, _, _, rfl, rfl, HF⟩
     ·
      refine AnyOrder.wpOp_go rfl (by rfl) ?_
      go_wp2_with fail
      refine (merge14_call x y V).mono ?_
      rintro e V' ⟨rfl, hb⟩
      exact hK _ _ ⟨_, _, _, _, _, _, _, _, _, _, _, _, _, _, _, _, rfl, rfl, ⟨⟨HF.out.ord, below_more HF.out.below hb, fun h => RN.below' (HF.out.r1 h) hb, fun h => RN.below' (HF.out.r2 h) hb⟩⟩⟩
     ·
      refine AnyOrder.wpOp_go rfl (by rfl) ?_
      refine op_putNode (.tmp 39) (.tmp 37) rfl rfl (mergeJ x y) (HF.out.r1 rfl) HPN.out.1 rfl rfl ?_
      intro W4 h1 h2
      exact hK _ _ ⟨_, _, _, _, _, _, _, _, _, _, _, _, _, _, _, _, rfl, rfl, ⟨⟨fun _ => rfl, HF.out.below.grown h2 HF.out.below.size (fun q e => by cases e; exact HGO.out), fun h => (by cases h), fun _ => h1⟩⟩⟩
    case last =>
     rintro L ac V ⟨l0, l1, l2, l3, l4, l5, l6, l7, l8, l9, l10, l11, l12, l13, l14, l15, rfl, rfl, HF⟩ hr
     obtain ⟨rfl, rfl, rfl, rfl, rfl, rfl, rfl, rfl, rfl, rfl, rfl, rfl, rfl, rfl, rfl, rfl, -⟩ := AnyOrder.alls rfl (by kernel_rfl) hr
     clear hr
     simp only [sel_true, selv_true]
     have HO := Aside0.mk (HF.out.r2 rfl)
     have HB := Aside0.mk HF.out.below
     rw [← HSJ.out, ← HST.out] at HO
     have hkk := HK.out
     clear HF
     go_wp2
     go_roundw
     case rel => exact ⟨k + 1, _, no, _, rfl, by go_num, by omega, HO, ⟨by have := HNO.out; omega⟩, HB⟩
     case measure => simp [intOf]; omega
  ·
   obtain rfl : k = nb := by omega
   rw [List.take_of_length_le (Nat.le_of_eq Hb.out)] at HO
   go_wp2
   go_ret
   exact ⟨_, rfl, HO.out, HB.out⟩
end Go.Proofs.YtmbndijbpgobeaaGreat.PWalk
end
section
namespace Go.Proofs.YtmbndijbpgobeaaGreat.PWalk
end Go.Proofs.YtmbndijbpgobeaaGreat.PWalk
end
section
namespace Go.Proofs.YtmbndijbpgobeaaGreat.PWalk
open Go.RowKit Go.Proofs.YtmbndijbpgobeaaGreatW.PrintWords Go.Proofs.YtmbndijbpgobeaaGreatW.PrintLast Go.Proofs.YtmbndijbpgobeaaGreatW.PrintMore
set_option linter.unusedVariables false
set_option linter.unusedSimpArgs false
open Go.Shelf
attribute [local go_sem] Oper.semAt_some
theorem jis_self (x : Node) : dotIs x.f0 x = true := by unfold dotIs; simp
theorem jis_no {x y : Node} (h : y.f0 ≠ x.f0) : dotIs x.f0 y = false := by
 unfold dotIs
 rw [Bool.eq_false_iff]
 intro e
 apply h
 simp only [Bool.and_eq_true, beq_iff_eq] at e
 cases hx : y.f0; cases hy : x.f0
 rw [hx, hy] at e
 simp only at e
 rw [e.1, e.2]
theorem findIdx_none {d : Dot} {l : List Node} (h : ∀ z ∈ l, z.f0 ≠ d) : l.findIdx? (dotIs d) = none := by
 rw [List.findIdx?_eq_none_iff]
 intro z hz
 exact jis_no (x := ⟨d, d, 0, 0⟩) (h z hz)
theorem store_inc {l : List Node} (h : storeOk l = true) : Inc l := by
 unfold storeOk at h
 rw [Bool.and_eq_true] at h
 exact inc_of h.2
end Go.Proofs.YtmbndijbpgobeaaGreat.PWalk
end
section
namespace Go.Proofs.YtmbndijbpgobeaaGreat.PWalk
open Go.RowKit Go.Proofs.YtmbndijbpgobeaaGreatW.PrintWords Go.Proofs.YtmbndijbpgobeaaGreatW.PrintLast Go.Proofs.YtmbndijbpgobeaaGreatW.PrintMore
set_option linter.unusedVariables false
set_option linter.unusedSimpArgs false
open Go.Shelf
attribute [local go_sem] Oper.semAt_some
/-- Whether a node stands on the root, or on an older node. -/
def goodJ (l : List Node) (x : Node) : Bool := dotRoot x.f1 || match l.findIdx? (dotIs x.f1) with | some k => decide ((l.getD k nodeZ).f2 < x.f2) | none => false
theorem jwell_from (l : List Node) (hl : l.length ≤ 400000) : ∀ (q k i : Nat), i + q = l.length → q + l.length + 1 < k → redpencilref14_Well.l0 k l (i : Int) = some ((l.drop i).all (goodJ l)) := by
 intro q
 induction q with
 | zero =>
  intro k i hi hk
  obtain ⟨k, rfl⟩ : ∃ m, k = m + 1 := ⟨k - 1, by omega⟩
  simp only [redpencilref14_Well.l0]
  rw [if_neg (by omega), List.drop_of_length_le (by omega)]
  rfl
 | succ q ih =>
  intro k i hi hk
  obtain ⟨k, rfl⟩ : ∃ m, k = m + 1 := ⟨k - 1, by omega⟩
  have hlt : i < l.length := by omega
  simp only [redpencilref14_Well.l0]
  rw [if_pos (by omega), if_pos (by omega), rdN hlt, wrap_succ hlt (by omega), List.drop_eq_getElem_cons hlt, List.all_cons, jfind_is l (by omega) l[i].f1 (by omega), ih k (i + 1) (by omega) (by omega), Option.bind_some]
  have er : (l[i].f1.f0 == 0 && l[i].f1.f1 == 0) = dotRoot l[i].f1 := by unfold dotRoot; rw [Bool.eq_iff_iff]; simp
  rw [er]
  unfold goodJ idxFrom
  cases hr : dotRoot l[i].f1 with
  | true => rw [if_pos rfl]; simp
  | false =>
   rw [if_neg (by decide), Bool.false_or]
   cases hf : l.findIdx? (dotIs l[i].f1) with
   | none => rfl
   | some j =>
    have hj : j < l.length := (List.findIdx?_eq_some_iff_getElem.1 hf).1
    dsimp only
    rw [if_neg (by omega), if_pos (by omega), if_pos (by omega), rdN hj]
    have e : l.getD j nodeZ = l[j] := by simp [List.getD, hj]
    rw [e]
    by_cases ht : l[j].f2 ≥ l[i].f2
    ·
     rw [if_pos ht, decide_eq_false (by omega)]; rfl
    ·
     rw [if_neg ht, decide_eq_true (by omega)]; simp
theorem good_iff {l : List Node} (hi : Inc l) {x : Node} : goodJ l x = true ↔ (dotRoot x.f1 = true ∨ ∃ p ∈ l, p.f0 = x.f1 ∧ p.f2 < x.f2) := by
 have hd : ∀ (p : Node) (d : Dot), dotIs d p = true ↔ p.f0 = d := fun p d => by
  unfold dotIs
  cases hp : p.f0; cases d
  simp
 unfold goodJ
 rw [Bool.or_eq_true]
 refine or_congr Iff.rfl ?_
 cases hf : l.findIdx? (dotIs x.f1) with
 | none =>
  rw [List.findIdx?_eq_none_iff] at hf
  constructor
  ·
   intro h; cases h
  ·
   rintro ⟨p, hp, e, _⟩
   have := hf p hp
   rw [(hd p x.f1).2 e] at this
   cases this
 | some j =>
  obtain ⟨hj, h1, _⟩ := List.findIdx?_eq_some_iff_getElem.1 hf
  have e : l.getD j nodeZ = l[j] := by simp [List.getD, hj]
  dsimp only
  rw [e, decide_eq_true_eq]
  constructor
  ·
   intro h; exact ⟨l[j], List.getElem_mem hj, (hd _ _).1 h1, h⟩
  ·
   rintro ⟨p, hp, e2, h2⟩
   obtain ⟨i, hi2⟩ := List.getElem?_of_mem hp
   have := inc_unique hi hi2 (List.getElem?_eq_getElem hj) (e2.trans ((hd _ _).1 h1).symm)
   subst this
   rw [List.getElem?_eq_getElem hj] at hi2
   cases hi2
   exact h2
theorem well_good {l : List Node} (hs : storeOk l = true) : wellB l = l.all (goodJ l) := by
 have S := store_of hs
 unfold wellB
 rw [Bool.eq_iff_iff, List.isEmpty_iff, List.all_eq_true]
 constructor
 ·
  intro h x hx
  obtain ⟨i, hi⟩ := List.getElem?_of_mem hx
  exact (good_iff S.inc).2 ((flaw_zero S.ok S.inc hi).1 (faults_none h i (List.getElem?_eq_some_iff.1 hi).1))
 ·
  intro h
  refine faultsUpto_nil fun i hi => ?_
  have hx := List.getElem?_eq_getElem hi
  exact (flaw_zero S.ok S.inc hx).2 ((good_iff S.inc).1 (h _ (List.getElem_mem hi)))
theorem jwell_is {l : List Node} (hl : l.length ≤ 400000) {k : Nat} (hk : l.length + l.length + 1 < k) : redpencilref14_Well.f k l = some (wellB l) := by
 unfold redpencilref14_Well.f redpencilref14_Store.f
 rw [if_pos hl, Option.bind_some]
 by_cases h : storeOk l = true
 ·
  rw [if_pos h, well_good h]
  exact jwell_from l hl l.length k 0 (by omega) hk
 ·
  rw [if_neg h]
  unfold wellB
  cases hf : (faultsOf l).isEmpty with
  | false => rfl
  | true => exact absurd (well_store (List.isEmpty_iff.1 hf)) h
theorem stepJ_le (o : List Node) (y : Node) : (stepJ o y).length ≤ o.length + 1 := by
 unfold stepJ
 cases o.findIdx? (dotIs y.f0) with
 | none => exact Nat.le_of_eq (insP_length y o)
 | some k => simp
theorem joinJ_le : ∀ (m o : List Node), (joinJ o m).length ≤ o.length + m.length
 | [], o => Nat.le_refl _
 | y :: m, o => by
  have h1 := joinJ_le m (stepJ o y)
  have h2 := stepJ_le o y
  show (joinJ (stepJ o y) m).length ≤ _
  rw [List.length_cons]
  omega
theorem joinJ_snoc (o m : List Node) (x : Node) : joinJ (joinJ o m) [x] = joinJ o (m ++ [x]) := by unfold joinJ; rw [List.foldl_append]
/-- What the reference of a replacement answers. -/
def replJ (l : List Node) (d : Dot) (a n : Int) (rs : List Int) : List Node × Int :=
 if errE l d a n rs ≠ 0 then ([], errE l d a n rs) else if busyE l d rs.length = true then ([], 11) else (joinJ (joinJ [] ((cutV l a n).map deadN)) (chainE d (leftE l a) (lastOf l) rs), 0)
theorem replJ_err {l : List Node} {d : Dot} {a n : Int} {rs : List Int} {c : Int} (h : errE l d a n rs = c) (hc : c ≠ 0) : replJ l d a n rs = ([], c) := by
 unfold replJ
 rw [h, if_pos hc]
theorem firstE_hit {e : Int} {r : List Int} (h : e ≠ 0) : firstE (e :: r) = e := by rw [firstE, if_neg h]
theorem firstE_skip {e : Int} {r : List Int} (h : e = 0) : firstE (e :: r) = firstE r := by rw [firstE, if_pos h]
theorem err2 {l : List Node} {d : Dot} {a n : Int} {rs : List Int} (h : wellB l = false ∨ dotOk d = false) : errE l d a n rs = 2 := by
 unfold errE
 rw [if_pos (by rcases h with h | h <;> rw [h] <;> simp), firstE_hit (by decide)]
section
variable {l : List Node} {d : Dot} {a n : Int} {rs : List Int} (hw : wellB l = true) (hd : dotOk d = true)
include hw hd
theorem err3 (h : spanE l a n ≠ 0) : errE l d a n rs = spanE l a n := by
 unfold errE
 rw [if_neg (by rw [hw, hd]; decide), firstE_skip rfl, firstE_hit h]
variable (hs : spanE l a n = 0)
include hs
theorem err5 (h : n > 10000 ∨ (rs.length : Int) > 10000) : errE l d a n rs = 5 := by
 unfold errE
 rw [if_neg (by rw [hw, hd]; decide), firstE_skip rfl, firstE_skip hs, if_pos (by rw [Bool.or_eq_true, decide_eq_true_eq, decide_eq_true_eq]; exact h), firstE_hit (by decide)]
variable (hn : ¬ n > 10000) (hm : ¬ (rs.length : Int) > 10000)
include hn hm
theorem err13 {r : Int} (h : r ∈ rs) (h2 : runeOk r = false) : errE l d a n rs = 13 := by
 unfold errE
 rw [if_neg (by rw [hw, hd]; decide), firstE_skip rfl, firstE_skip hs, if_neg (by rw [decide_eq_false hn, decide_eq_false hm]; decide), firstE_skip rfl, if_pos (List.any_eq_true.2 ⟨r, h, by rw [h2]; rfl⟩), firstE_hit (by decide)]
variable (hr : ∀ r ∈ rs, runeOk r = true)
include hr
theorem err_last : errE l d a n rs = if (decide (d.f1 > 4294967296 - (rs.length : Int)) || decide (lateE l > 4611686018427387904 - (rs.length : Int))) = true then 14 else 0 := by
 have e1 : wrap64 (wrap64 (4294967295 - (rs.length : Int)) + 1) = 4294967296 - (rs.length : Int) := by unfold wrap64; omega
 have e2 : wrap64 (4611686018427387904 - (rs.length : Int)) = 4611686018427387904 - (rs.length : Int) := by unfold wrap64; omega
 have e3 : ¬ (rs.any fun r => !runeOk r) = true := fun h => by
  obtain ⟨r, h1, h2⟩ := List.any_eq_true.1 h
  rw [hr r h1] at h2
  cases h2
 unfold errE
 rw [if_neg (by rw [hw, hd]; decide), firstE_skip rfl, firstE_skip hs, if_neg (by rw [decide_eq_false hn, decide_eq_false hm]; decide), firstE_skip rfl, if_neg e3, firstE_skip rfl, e1, e2]
 by_cases h : (decide (d.f1 > 4294967296 - (rs.length : Int)) || decide (lateE l > 4611686018427387904 - (rs.length : Int))) = true
 ·
  rw [if_pos h, firstE_hit (by decide)]
 ·
  rw [if_neg h, firstE_skip rfl]; rfl
theorem err14 (h : d.f1 > 4294967296 - (rs.length : Int) ∨ lateE l > 4611686018427387904 - (rs.length : Int)) : errE l d a n rs = 14 := by
 rw [err_last hw hd hs hn hm hr, if_pos (by rw [Bool.or_eq_true, decide_eq_true_eq, decide_eq_true_eq]; exact h)]
theorem err0 (h : ¬ d.f1 > 4294967296 - (rs.length : Int)) (h2 : ¬ lateE l > 4611686018427387904 - (rs.length : Int)) : errE l d a n rs = 0 := by
 rw [err_last hw hd hs hn hm hr, if_neg (by rw [decide_eq_false h, decide_eq_false h2]; decide)]
end
theorem span3 {l : List Node} {a n : Int} (hw : wellB l = true) (h : a < 0 ∨ n < 0 ∨ a > ((visOf l).length : Int) ∨ n > ((visOf l).length : Int) - a) : spanE l a n = 3 := by
 unfold spanE
 rw [if_pos (List.isEmpty_iff.1 hw), if_pos h]
theorem span0 {l : List Node} {a n : Int} (hw : wellB l = true) (h : ¬ (a < 0 ∨ n < 0 ∨ a > ((visOf l).length : Int) ∨ n > ((visOf l).length : Int) - a)) : spanE l a n = 0 := by
 unfold spanE
 rw [if_pos (List.isEmpty_iff.1 hw), if_neg h]
theorem cut_succ {v : List Node} {a k : Nat} {x : Node} (h : v[a + k]? = some x) : (v.take (a + (k + 1))).drop a = (v.take (a + k)).drop a ++ [x] := by
 obtain ⟨hk, e⟩ := List.getElem?_eq_some_iff.1 h
 rw [← Nat.add_assoc, List.take_succ_eq_append_getElem hk, List.drop_append_of_le_length (by rw [List.length_take]; omega), e]
theorem gone_succ {v : List Node} {a k : Nat} {x : Node} (h : v[a + k]? = some x) : joinJ (joinJ [] (((v.take (a + k)).drop a).map deadN)) [deadN x] = joinJ [] (((v.take (a + (k + 1))).drop a).map deadN) := by
 rw [cut_succ h, List.map_append, List.map_cons, List.map_nil, joinJ_snoc]
theorem rang_succ {g : List Node} {d p : Dot} {t : Int} {rs : List Int} {k : Nat} {x : Node} (h : nodeE d p t rs k = x) : joinJ (joinJ g ((List.range k).map (nodeE d p t rs))) [x] = joinJ g ((List.range (k + 1)).map (nodeE d p t rs)) := by
 rw [List.range_succ, List.map_append, List.map_cons, List.map_nil, h, joinJ_snoc]
end Go.Proofs.YtmbndijbpgobeaaGreat.PWalk
end
section
namespace Go.Proofs.YtmbndijbpgobeaaGreat.PWalk
open Go.RowKit Go.Proofs.YtmbndijbpgobeaaGreatW.PrintWords Go.Proofs.YtmbndijbpgobeaaGreatW.PrintLast Go.Proofs.YtmbndijbpgobeaaGreatW.PrintMore
attribute [local go_sem] max2_int max_two
set_option linter.unusedVariables false
set_option linter.unusedSimpArgs false
def redpencilref14_first.f (a0_0 : Int) (a0_1 : Int) (a0_2 : Int) (a0_3 : Int) (a0_4 : Int) (a0_5 : Int) (a1_0 : Int) (a1_1 : Int) (a1_2 : Int) (a1_3 : Int) (a1_4 : Int) (a1_5 : Int) : Option (Bool) := if a0_4 > a1_4 then (some true) else (if a0_4 = a1_4 then ((redpencilref14_Before.f a1_0 a1_1 a0_0 a0_1).bind fun t263 => (some t263)) else (some false))
set_option maxHeartbeats 8000000 in
set_option maxRecDepth 100000 in
theorem redpencilref14_first.calls (a0_0 : Int) (a0_1 : Int) (a0_2 : Int) (a0_3 : Int) (a0_4 : Int) (a0_5 : Int) (a1_0 : Int) (a1_1 : Int) (a1_2 : Int) (a1_3 : Int) (a1_4 : Int) (a1_5 : Int) (r : Bool) (w : World) (h : redpencilref14_first.f a0_0 a0_1 a0_2 a0_3 a0_4 a0_5 a1_0 a1_1 a1_2 a1_3 a1_4 a1_5 = some r) :
  Calls Tryz.prog 103 #[.agg #[.int .i64 a0_0, .int .i64 a0_1, .int .i64 a0_2, .int .i64 a0_3, .int .i64 a0_4, .int .i32 a0_5], .agg #[.int .i64 a1_0, .int .i64 a1_1, .int .i64 a1_2, .int .i64 a1_3, .int .i64 a1_4, .int .i32 a1_5]] w fun e w' => e = .returned (.bool r) ∧ Below w.heap.size w w' := by
 have hu53 := Tryz.underlying53
 have hu25 := Tryz.underlying25
 have HB := Aside0.mk (Below.refl w.heap.size w)
 have H : (if a0_4 > a1_4 then (some true) else (if a0_4 = a1_4 then ((redpencilref14_Before.f a1_0 a1_1 a0_0 a0_1).bind fun t263 => (some t263)) else (some false))) = some r := h
 clear h
 by_cases c3 : a0_4 > a1_4
 ·
  rw [if_pos c3] at H
  have c3b0 : decide (a1_4 < a0_4) = true := decide_eq_true c3
  clear c3
  obtain rfl := Option.some.inj H
  go_enter Tryz.func103, Tryz.ntmps103
  go_wp2_with (first | ((with_reducible refine gate_dst (N := 2) rfl ?_); refine box_event ?hg (N := 2) ?hd (cs := #[.int .i64 a0_0, .int .i64 a0_1, .int .i64 a0_2, .int .i64 a0_3, .int .i64 a0_4, .int .i32 a0_5]) (t := 53) ?hr ?_; (case hd => rfl); (case hg => rfl); (case hr => first | (go_simp; done) | (go_simp; rfl)); intro gb261 hg w4 hbox hb; have n0_ := Aside0.mk (below_step (by repeat (first | (with_reducible first | exact HB.out | apply below_alloc | apply pw_below_drewN | apply below_drew1) | exact HB.out)) hb); have n1_ := Aside0.mk (hbox); have n2_ := Aside0.mk ((by rw [hg]; exact (below_size (by repeat (first | (with_reducible first | exact HB.out | apply below_alloc | apply pw_below_drewN | apply below_drew1) | exact HB.out))) : w.heap.size ≤ gb261)); have n3_ := Aside0.mk ((by rw [hg]; exact (below_size (by repeat (first | (with_reducible first | exact HB.out | apply below_alloc | apply pw_below_drewN | apply below_drew1) | exact HB.out))) : w.heap.size ≤ gb261)); clear HB; have HB := n0_; have BK261 := n1_; have GW261 := n2_; have GE261 := n3_; clear n0_ n1_ n2_ n3_; clear hb hbox hg) | ((with_reducible refine gate_dst (N := 3) rfl ?_); refine box_event ?hg (N := 3) ?hd (cs := #[.int .i64 a1_0, .int .i64 a1_1, .int .i64 a1_2, .int .i64 a1_3, .int .i64 a1_4, .int .i32 a1_5]) (t := 53) ?hr ?_; (case hd => rfl); (case hg => rfl); (case hr => first | (go_simp; done) | (go_simp; rfl)); intro gb262 hg w5 hbox hb; have n0_ := Aside0.mk (blk_below (g := gb261) (o := .cells #[.int .i64 a0_0, .int .i64 a0_1, .int .i64 a0_2, .int .i64 a0_3, .int .i64 a0_4, .int .i32 a0_5] 53 (0, 0)) (by (with_reducible repeat (first | refine blk_drewN ?_ _ | refine blk_drew ?_ | refine blk_alloc ?_ _)); exact BK261.out) hb); have n1_ := Aside0.mk (below_step (by repeat (first | (with_reducible first | exact HB.out | apply below_alloc | apply pw_below_drewN | apply below_drew1 | refine below_set ?_ GE261.out) | exact HB.out)) hb); have n2_ := Aside0.mk (hbox); have n3_ := Aside0.mk ((by rw [hg]; exact (below_size (by repeat (first | (with_reducible first | exact HB.out | apply below_alloc | apply pw_below_drewN | apply below_drew1 | refine below_set ?_ GE261.out) | exact HB.out))) : w.heap.size ≤ gb262)); have n4_ := Aside0.mk ((by rw [hg]; exact (below_size (by repeat (first | (with_reducible first | exact HB.out | apply below_alloc | apply pw_below_drewN | apply below_drew1 | refine below_set ?_ GE261.out) | exact HB.out))) : w.heap.size ≤ gb262)); have n5_ := Aside0.mk ((by rw [hg]; exact Nat.ne_of_lt (blk_lt (g := gb261) (o := .cells #[.int .i64 a0_0, .int .i64 a0_1, .int .i64 a0_2, .int .i64 a0_3, .int .i64 a0_4, .int .i32 a0_5] 53 (0, 0)) (by (with_reducible repeat (first | refine blk_drewN ?_ _ | refine blk_drew ?_ | refine blk_alloc ?_ _)); exact BK261.out)) : gb261 ≠ gb262)); have n6_ := Aside0.mk ((by rw [hg]; exact Nat.ne_of_gt (blk_lt (g := gb261) (o := .cells #[.int .i64 a0_0, .int .i64 a0_1, .int .i64 a0_2, .int .i64 a0_3, .int .i64 a0_4, .int .i32 a0_5] 53 (0, 0)) (by (with_reducible repeat (first | refine blk_drewN ?_ _ | refine blk_drew ?_ | refine blk_alloc ?_ _)); exact BK261.out)) : gb262 ≠ gb261)); clear BK261; clear HB; have BK261 := n0_; have HB := n1_; have BK262 := n2_; have GW262 := n3_; have GE262 := n4_; have NB261_262 := n5_; have NB262_261 := n6_; clear n0_ n1_ n2_ n3_ n4_ n5_ n6_; clear hb hbox hg; have hnb6 := NB261_262.out; have hnc6 := NB262_261.out; have hcz7_0 : w5.cell? ⟨gb261, 0, none⟩ = some (.int .i64 a0_0) := (blk_cell BK261.out 0).trans rfl; have hcz7_1 : w5.cell? ⟨gb261, 1, none⟩ = some (.int .i64 a0_1) := (blk_cell BK261.out 1).trans rfl; have hcz7_2 : w5.cell? ⟨gb261, 2, none⟩ = some (.int .i64 a0_2) := (blk_cell BK261.out 2).trans rfl; have hcz7_3 : w5.cell? ⟨gb261, 3, none⟩ = some (.int .i64 a0_3) := (blk_cell BK261.out 3).trans rfl; have hcz7_4 : w5.cell? ⟨gb261, 4, none⟩ = some (.int .i64 a0_4) := (blk_cell BK261.out 4).trans rfl; have hcz7_5 : w5.cell? ⟨gb261, 5, none⟩ = some (.int .i32 a0_5) := (blk_cell BK261.out 5).trans rfl; have hfz7_0 := blk_frozen BK261.out 0; have hfz7_1 := blk_frozen BK261.out 1; have hfz7_2 := blk_frozen BK261.out 2; have hfz7_3 := blk_frozen BK261.out 3; have hfz7_4 := blk_frozen BK261.out 4; have hfz7_5 := blk_frozen BK261.out 5; have hcz8_0 : w5.cell? ⟨gb262, 0, none⟩ = some (.int .i64 a1_0) := (blk_cell BK262.out 0).trans rfl; have hcz8_1 : w5.cell? ⟨gb262, 1, none⟩ = some (.int .i64 a1_1) := (blk_cell BK262.out 1).trans rfl; have hcz8_2 : w5.cell? ⟨gb262, 2, none⟩ = some (.int .i64 a1_2) := (blk_cell BK262.out 2).trans rfl; have hcz8_3 : w5.cell? ⟨gb262, 3, none⟩ = some (.int .i64 a1_3) := (blk_cell BK262.out 3).trans rfl; have hcz8_4 : w5.cell? ⟨gb262, 4, none⟩ = some (.int .i64 a1_4) := (blk_cell BK262.out 4).trans rfl; have hcz8_5 : w5.cell? ⟨gb262, 5, none⟩ = some (.int .i32 a1_5) := (blk_cell BK262.out 5).trans rfl; have hfz8_0 := blk_frozen BK262.out 0; have hfz8_1 := blk_frozen BK262.out 1; have hfz8_2 := blk_frozen BK262.out 2; have hfz8_3 := blk_frozen BK262.out 3; have hfz8_4 := blk_frozen BK262.out 4; have hfz8_5 := blk_frozen BK262.out 5))
  go_ret
  exact ⟨by first | rfl | (simp [errW_none, errW_some] <;> rfl) | (simp [*, errW_none, errW_some] <;> rfl), by repeat (first | (with_reducible first | exact HB.out | apply below_alloc | apply pw_below_drewN | apply below_drew1 | refine below_set ?_ GE261.out | refine below_set ?_ GE262.out) | exact HB.out)⟩
 ·
  rw [if_neg c3] at H
  have c3b0 : decide (a1_4 < a0_4) = false := decide_eq_false c3
  clear c3
  by_cases c9 : a0_4 = a1_4
  ·
   rw [if_pos c9] at H
   have c9b0 : (a0_4 == a1_4) = true := beq_iff_eq.mpr c9
   have c9b1 : (a0_4 != a1_4) = false := bne_eq_false_iff_eq.mpr c9
   clear c9
   replace H := Option.bind_eq_some_iff.mp H
   obtain ⟨t263, A100, H⟩ := H
   replace H : (some t263) = some r := H
   have A10 := Aside0.mk A100
   clear A100
   obtain rfl := Option.some.inj H
   go_enter Tryz.func103, Tryz.ntmps103
   go_wp2_with (first | ((with_reducible refine gate_dst (N := 2) rfl ?_); refine box_event ?hg (N := 2) ?hd (cs := #[.int .i64 a0_0, .int .i64 a0_1, .int .i64 a0_2, .int .i64 a0_3, .int .i64 a0_4, .int .i32 a0_5]) (t := 53) ?hr ?_; (case hd => rfl); (case hg => rfl); (case hr => first | (go_simp; done) | (go_simp; rfl)); intro gb261 hg w11 hbox hb; have n0_ := Aside0.mk (below_step (by repeat (first | (with_reducible first | exact HB.out | apply below_alloc | apply pw_below_drewN | apply below_drew1) | exact HB.out)) hb); have n1_ := Aside0.mk (hbox); have n2_ := Aside0.mk ((by rw [hg]; exact (below_size (by repeat (first | (with_reducible first | exact HB.out | apply below_alloc | apply pw_below_drewN | apply below_drew1) | exact HB.out))) : w.heap.size ≤ gb261)); have n3_ := Aside0.mk ((by rw [hg]; exact (below_size (by repeat (first | (with_reducible first | exact HB.out | apply below_alloc | apply pw_below_drewN | apply below_drew1) | exact HB.out))) : w.heap.size ≤ gb261)); clear HB; have HB := n0_; have BK261 := n1_; have GW261 := n2_; have GE261 := n3_; clear n0_ n1_ n2_ n3_; clear hb hbox hg) | ((with_reducible refine gate_dst (N := 3) rfl ?_); refine box_event ?hg (N := 3) ?hd (cs := #[.int .i64 a1_0, .int .i64 a1_1, .int .i64 a1_2, .int .i64 a1_3, .int .i64 a1_4, .int .i32 a1_5]) (t := 53) ?hr ?_; (case hd => rfl); (case hg => rfl); (case hr => first | (go_simp; done) | (go_simp; rfl)); intro gb262 hg w12 hbox hb; have n0_ := Aside0.mk (blk_below (g := gb261) (o := .cells #[.int .i64 a0_0, .int .i64 a0_1, .int .i64 a0_2, .int .i64 a0_3, .int .i64 a0_4, .int .i32 a0_5] 53 (0, 0)) (by (with_reducible repeat (first | refine blk_drewN ?_ _ | refine blk_drew ?_ | refine blk_alloc ?_ _)); exact BK261.out) hb); have n1_ := Aside0.mk (below_step (by repeat (first | (with_reducible first | exact HB.out | apply below_alloc | apply pw_below_drewN | apply below_drew1 | refine below_set ?_ GE261.out) | exact HB.out)) hb); have n2_ := Aside0.mk (hbox); have n3_ := Aside0.mk ((by rw [hg]; exact (below_size (by repeat (first | (with_reducible first | exact HB.out | apply below_alloc | apply pw_below_drewN | apply below_drew1 | refine below_set ?_ GE261.out) | exact HB.out))) : w.heap.size ≤ gb262)); have n4_ := Aside0.mk ((by rw [hg]; exact (below_size (by repeat (first | (with_reducible first | exact HB.out | apply below_alloc | apply pw_below_drewN | apply below_drew1 | refine below_set ?_ GE261.out) | exact HB.out))) : w.heap.size ≤ gb262)); have n5_ := Aside0.mk ((by rw [hg]; exact Nat.ne_of_lt (blk_lt (g := gb261) (o := .cells #[.int .i64 a0_0, .int .i64 a0_1, .int .i64 a0_2, .int .i64 a0_3, .int .i64 a0_4, .int .i32 a0_5] 53 (0, 0)) (by (with_reducible repeat (first | refine blk_drewN ?_ _ | refine blk_drew ?_ | refine blk_alloc ?_ _)); exact BK261.out)) : gb261 ≠ gb262)); have n6_ := Aside0.mk ((by rw [hg]; exact Nat.ne_of_gt (blk_lt (g := gb261) (o := .cells #[.int .i64 a0_0, .int .i64 a0_1, .int .i64 a0_2, .int .i64 a0_3, .int .i64 a0_4, .int .i32 a0_5] 53 (0, 0)) (by (with_reducible repeat (first | refine blk_drewN ?_ _ | refine blk_drew ?_ | refine blk_alloc ?_ _)); exact BK261.out)) : gb262 ≠ gb261)); clear BK261; clear HB; have BK261 := n0_; have HB := n1_; have BK262 := n2_; have GW262 := n3_; have GE262 := n4_; have NB261_262 := n5_; have NB262_261 := n6_; clear n0_ n1_ n2_ n3_ n4_ n5_ n6_; clear hb hbox hg; have hnb13 := NB261_262.out; have hnc13 := NB262_261.out; have hcz14_0 : w12.cell? ⟨gb261, 0, none⟩ = some (.int .i64 a0_0) := (blk_cell BK261.out 0).trans rfl; have hcz14_1 : w12.cell? ⟨gb261, 1, none⟩ = some (.int .i64 a0_1) := (blk_cell BK261.out 1).trans rfl; have hcz14_2 : w12.cell? ⟨gb261, 2, none⟩ = some (.int .i64 a0_2) := (blk_cell BK261.out 2).trans rfl; have hcz14_3 : w12.cell? ⟨gb261, 3, none⟩ = some (.int .i64 a0_3) := (blk_cell BK261.out 3).trans rfl; have hcz14_4 : w12.cell? ⟨gb261, 4, none⟩ = some (.int .i64 a0_4) := (blk_cell BK261.out 4).trans rfl; have hcz14_5 : w12.cell? ⟨gb261, 5, none⟩ = some (.int .i32 a0_5) := (blk_cell BK261.out 5).trans rfl; have hfz14_0 := blk_frozen BK261.out 0; have hfz14_1 := blk_frozen BK261.out 1; have hfz14_2 := blk_frozen BK261.out 2; have hfz14_3 := blk_frozen BK261.out 3; have hfz14_4 := blk_frozen BK261.out 4; have hfz14_5 := blk_frozen BK261.out 5; have hcz15_0 : w12.cell? ⟨gb262, 0, none⟩ = some (.int .i64 a1_0) := (blk_cell BK262.out 0).trans rfl; have hcz15_1 : w12.cell? ⟨gb262, 1, none⟩ = some (.int .i64 a1_1) := (blk_cell BK262.out 1).trans rfl; have hcz15_2 : w12.cell? ⟨gb262, 2, none⟩ = some (.int .i64 a1_2) := (blk_cell BK262.out 2).trans rfl; have hcz15_3 : w12.cell? ⟨gb262, 3, none⟩ = some (.int .i64 a1_3) := (blk_cell BK262.out 3).trans rfl; have hcz15_4 : w12.cell? ⟨gb262, 4, none⟩ = some (.int .i64 a1_4) := (blk_cell BK262.out 4).trans rfl; have hcz15_5 : w12.cell? ⟨gb262, 5, none⟩ = some (.int .i32 a1_5) := (blk_cell BK262.out 5).trans rfl; have hfz15_0 := blk_frozen BK262.out 0; have hfz15_1 := blk_frozen BK262.out 1; have hfz15_2 := blk_frozen BK262.out 2; have hfz15_3 := blk_frozen BK262.out 3; have hfz15_4 := blk_frozen BK262.out 4; have hfz15_5 := blk_frozen BK262.out 5) | (go_at_call 58; (with_reducible refine (redpencilref14_Before.calls a1_0 a1_1 a0_0 a0_1 t263 _ A10.out).mono ?_); rintro e w16 ⟨rfl, hb⟩; have n0_ := Aside0.mk (blk_below (g := gb261) (o := .cells #[.int .i64 a0_0, .int .i64 a0_1, .int .i64 a0_2, .int .i64 a0_3, .int .i64 a0_4, .int .i32 a0_5] 53 (0, 0)) (by (with_reducible repeat (first | refine blk_drewN ?_ _ | refine blk_drew ?_ | refine blk_alloc ?_ _)); exact BK261.out) hb); have n1_ := Aside0.mk (blk_below (g := gb262) (o := .cells #[.int .i64 a1_0, .int .i64 a1_1, .int .i64 a1_2, .int .i64 a1_3, .int .i64 a1_4, .int .i32 a1_5] 53 (0, 0)) (by (with_reducible repeat (first | refine blk_drewN ?_ _ | refine blk_drew ?_ | refine blk_alloc ?_ _)); exact BK262.out) hb); have n2_ := Aside0.mk (below_step (by repeat (first | (with_reducible first | exact HB.out | apply below_alloc | apply pw_below_drewN | apply below_drew1 | refine below_set ?_ GE261.out | refine below_set ?_ GE262.out) | exact HB.out)) hb); clear BK261; clear BK262; clear HB; have BK261 := n0_; have BK262 := n1_; have HB := n2_; clear n0_ n1_ n2_; (try clear hb); (try clear hb2); (try clear hk); (try clear hi)))
   go_ret
   exact ⟨by first | rfl | (simp [errW_none, errW_some] <;> rfl) | (simp [*, errW_none, errW_some] <;> rfl), by repeat (first | (with_reducible first | exact HB.out | apply below_alloc | apply pw_below_drewN | apply below_drew1 | refine below_set ?_ GE261.out | refine below_set ?_ GE262.out) | exact HB.out)⟩
  ·
   rw [if_neg c9] at H
   have c9b0 : (a0_4 == a1_4) = false := beq_eq_false_iff_ne.mpr c9
   have c9b1 : (a0_4 != a1_4) = true := bne_iff_ne.mpr c9
   obtain rfl := Option.some.inj H
   go_enter Tryz.func103, Tryz.ntmps103
   go_wp2_with (first | ((with_reducible refine gate_dst (N := 2) rfl ?_); refine box_event ?hg (N := 2) ?hd (cs := #[.int .i64 a0_0, .int .i64 a0_1, .int .i64 a0_2, .int .i64 a0_3, .int .i64 a0_4, .int .i32 a0_5]) (t := 53) ?hr ?_; (case hd => rfl); (case hg => rfl); (case hr => first | (go_simp; done) | (go_simp; rfl)); intro gb261 hg w17 hbox hb; have n0_ := Aside0.mk (below_step (by repeat (first | (with_reducible first | exact HB.out | apply below_alloc | apply pw_below_drewN | apply below_drew1) | exact HB.out)) hb); have n1_ := Aside0.mk (hbox); have n2_ := Aside0.mk ((by rw [hg]; exact (below_size (by repeat (first | (with_reducible first | exact HB.out | apply below_alloc | apply pw_below_drewN | apply below_drew1) | exact HB.out))) : w.heap.size ≤ gb261)); have n3_ := Aside0.mk ((by rw [hg]; exact (below_size (by repeat (first | (with_reducible first | exact HB.out | apply below_alloc | apply pw_below_drewN | apply below_drew1) | exact HB.out))) : w.heap.size ≤ gb261)); clear HB; have HB := n0_; have BK261 := n1_; have GW261 := n2_; have GE261 := n3_; clear n0_ n1_ n2_ n3_; clear hb hbox hg) | ((with_reducible refine gate_dst (N := 3) rfl ?_); refine box_event ?hg (N := 3) ?hd (cs := #[.int .i64 a1_0, .int .i64 a1_1, .int .i64 a1_2, .int .i64 a1_3, .int .i64 a1_4, .int .i32 a1_5]) (t := 53) ?hr ?_; (case hd => rfl); (case hg => rfl); (case hr => first | (go_simp; done) | (go_simp; rfl)); intro gb262 hg w18 hbox hb; have n0_ := Aside0.mk (blk_below (g := gb261) (o := .cells #[.int .i64 a0_0, .int .i64 a0_1, .int .i64 a0_2, .int .i64 a0_3, .int .i64 a0_4, .int .i32 a0_5] 53 (0, 0)) (by (with_reducible repeat (first | refine blk_drewN ?_ _ | refine blk_drew ?_ | refine blk_alloc ?_ _)); exact BK261.out) hb); have n1_ := Aside0.mk (below_step (by repeat (first | (with_reducible first | exact HB.out | apply below_alloc | apply pw_below_drewN | apply below_drew1 | refine below_set ?_ GE261.out) | exact HB.out)) hb); have n2_ := Aside0.mk (hbox); have n3_ := Aside0.mk ((by rw [hg]; exact (below_size (by repeat (first | (with_reducible first | exact HB.out | apply below_alloc | apply pw_below_drewN | apply below_drew1 | refine below_set ?_ GE261.out) | exact HB.out))) : w.heap.size ≤ gb262)); have n4_ := Aside0.mk ((by rw [hg]; exact (below_size (by repeat (first | (with_reducible first | exact HB.out | apply below_alloc | apply pw_below_drewN | apply below_drew1 | refine below_set ?_ GE261.out) | exact HB.out))) : w.heap.size ≤ gb262)); have n5_ := Aside0.mk ((by rw [hg]; exact Nat.ne_of_lt (blk_lt (g := gb261) (o := .cells #[.int .i64 a0_0, .int .i64 a0_1, .int .i64 a0_2, .int .i64 a0_3, .int .i64 a0_4, .int .i32 a0_5] 53 (0, 0)) (by (with_reducible repeat (first | refine blk_drewN ?_ _ | refine blk_drew ?_ | refine blk_alloc ?_ _)); exact BK261.out)) : gb261 ≠ gb262)); have n6_ := Aside0.mk ((by rw [hg]; exact Nat.ne_of_gt (blk_lt (g := gb261) (o := .cells #[.int .i64 a0_0, .int .i64 a0_1, .int .i64 a0_2, .int .i64 a0_3, .int .i64 a0_4, .int .i32 a0_5] 53 (0, 0)) (by (with_reducible repeat (first | refine blk_drewN ?_ _ | refine blk_drew ?_ | refine blk_alloc ?_ _)); exact BK261.out)) : gb262 ≠ gb261)); clear BK261; clear HB; have BK261 := n0_; have HB := n1_; have BK262 := n2_; have GW262 := n3_; have GE262 := n4_; have NB261_262 := n5_; have NB262_261 := n6_; clear n0_ n1_ n2_ n3_ n4_ n5_ n6_; clear hb hbox hg; have hnb19 := NB261_262.out; have hnc19 := NB262_261.out; have hcz20_0 : w18.cell? ⟨gb261, 0, none⟩ = some (.int .i64 a0_0) := (blk_cell BK261.out 0).trans rfl; have hcz20_1 : w18.cell? ⟨gb261, 1, none⟩ = some (.int .i64 a0_1) := (blk_cell BK261.out 1).trans rfl; have hcz20_2 : w18.cell? ⟨gb261, 2, none⟩ = some (.int .i64 a0_2) := (blk_cell BK261.out 2).trans rfl; have hcz20_3 : w18.cell? ⟨gb261, 3, none⟩ = some (.int .i64 a0_3) := (blk_cell BK261.out 3).trans rfl; have hcz20_4 : w18.cell? ⟨gb261, 4, none⟩ = some (.int .i64 a0_4) := (blk_cell BK261.out 4).trans rfl; have hcz20_5 : w18.cell? ⟨gb261, 5, none⟩ = some (.int .i32 a0_5) := (blk_cell BK261.out 5).trans rfl; have hfz20_0 := blk_frozen BK261.out 0; have hfz20_1 := blk_frozen BK261.out 1; have hfz20_2 := blk_frozen BK261.out 2; have hfz20_3 := blk_frozen BK261.out 3; have hfz20_4 := blk_frozen BK261.out 4; have hfz20_5 := blk_frozen BK261.out 5; have hcz21_0 : w18.cell? ⟨gb262, 0, none⟩ = some (.int .i64 a1_0) := (blk_cell BK262.out 0).trans rfl; have hcz21_1 : w18.cell? ⟨gb262, 1, none⟩ = some (.int .i64 a1_1) := (blk_cell BK262.out 1).trans rfl; have hcz21_2 : w18.cell? ⟨gb262, 2, none⟩ = some (.int .i64 a1_2) := (blk_cell BK262.out 2).trans rfl; have hcz21_3 : w18.cell? ⟨gb262, 3, none⟩ = some (.int .i64 a1_3) := (blk_cell BK262.out 3).trans rfl; have hcz21_4 : w18.cell? ⟨gb262, 4, none⟩ = some (.int .i64 a1_4) := (blk_cell BK262.out 4).trans rfl; have hcz21_5 : w18.cell? ⟨gb262, 5, none⟩ = some (.int .i32 a1_5) := (blk_cell BK262.out 5).trans rfl; have hfz21_0 := blk_frozen BK262.out 0; have hfz21_1 := blk_frozen BK262.out 1; have hfz21_2 := blk_frozen BK262.out 2; have hfz21_3 := blk_frozen BK262.out 3; have hfz21_4 := blk_frozen BK262.out 4; have hfz21_5 := blk_frozen BK262.out 5))
   go_ret
   exact ⟨by first | rfl | (simp [errW_none, errW_some] <;> rfl) | (simp [*, errW_none, errW_some] <;> rfl), by repeat (first | (with_reducible first | exact HB.out | apply below_alloc | apply pw_below_drewN | apply below_drew1 | refine below_set ?_ GE261.out | refine below_set ?_ GE262.out) | exact HB.out)⟩
end Go.Proofs.YtmbndijbpgobeaaGreat.PWalk
end
