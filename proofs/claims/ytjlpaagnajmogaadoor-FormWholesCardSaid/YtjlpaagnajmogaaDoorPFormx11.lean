-- Made by a program (wip/pp/pp.py, over the kit's print.py) for this claim. Lean checks it.
import Derived.Test.YtjlpaagnajmogaaDoorPFormx0
import Derived.Test.YtjlpaagnajmogaaDoorPFormx9
import Derived.Test.YtjlpaagnajmogaaDoorPFormx10
namespace Go.Proofs.YtjlpaagnajmogaaDoor.PForm
open Go.RowKit Go.Proofs.YtjlpaagnajmogaaDoorW.PrintWords Go.Proofs.YtjlpaagnajmogaaDoorW.PrintLast Go.Proofs.YtjlpaagnajmogaaDoorW.PrintMore
attribute [local go_sem] max2_int min2_int max_two min_two max_three min_three max_four min_four   -- for this text's walks alone
set_option linter.unusedVariables false
set_option linter.unusedSimpArgs false

/-! ### redpencilref13_Flaw: function 37 -/
def redpencilref13_Flaw.j0 : Nat → List (S37) → Bool → Int → Int → Int → Int → Int → Int → Option (Int)
  | 0, _, _, _, _, _, _, _, _ => none
  | k + 1, x0, x27, x315000, x315001, x315002, x315003, x315004, x315005 => if x27 = true then (some 2) else ((redpencilref04_Root.f x315002 x315003).bind fun t318 => (if t318 = true then (some 0) else ((redpencilref10_Find.f k x0 x315002 x315003).bind fun t319 => (if t319 < 0 then (some 3) else (if 0 ≤ t319 then (if t319 < (x0.length : Int) then (if x315004 ≤ ((rd_T37 x0 t319).f2) then (some 4) else (some 0)) else (none)) else (none))))))
def redpencilref13_Flaw.f (k : Nat) (l0 : List (S37)) (a1 : Int) : Option (Int) := if 0 ≤ a1 then (if a1 < (l0.length : Int) then ((redpencilref09_Valid.f ((rd_T37 l0 a1).f0.f0) ((rd_T37 l0 a1).f0.f1) ((rd_T37 l0 a1).f1.f0) ((rd_T37 l0 a1).f1.f1) ((rd_T37 l0 a1).f2) ((rd_T37 l0 a1).f3)).bind fun t315 => (if t315 = true then (if a1 > 0 then (if 0 ≤ (wrap64 (a1 - 1)) then (if (wrap64 (a1 - 1)) < (l0.length : Int) then ((redpencilref04_Less.f ((rd_T37 l0 (wrap64 (a1 - 1))).f0.f0) ((rd_T37 l0 (wrap64 (a1 - 1))).f0.f1) ((rd_T37 l0 a1).f0.f0) ((rd_T37 l0 a1).f0.f1)).bind fun t317 => (redpencilref13_Flaw.j0 k l0 (!t317) ((rd_T37 l0 a1).f0.f0) ((rd_T37 l0 a1).f0.f1) ((rd_T37 l0 a1).f1.f0) ((rd_T37 l0 a1).f1.f1) ((rd_T37 l0 a1).f2) ((rd_T37 l0 a1).f3))) else (none)) else (none)) else (redpencilref13_Flaw.j0 k l0 false ((rd_T37 l0 a1).f0.f0) ((rd_T37 l0 a1).f0.f1) ((rd_T37 l0 a1).f1.f0) ((rd_T37 l0 a1).f1.f1) ((rd_T37 l0 a1).f2) ((rd_T37 l0 a1).f3))) else (some 1))) else (none)) else (none)
theorem redpencilref13_Flaw.mono_l : ∀ k, (∀ y0 y1 y2 y3 y4 y5 y6 y7, LeO (redpencilref13_Flaw.j0 k y0 y1 y2 y3 y4 y5 y6 y7) (redpencilref13_Flaw.j0 (k + 1) y0 y1 y2 y3 y4 y5 y6 y7))
  | 0 => fun _ _ _ _ _ _ _ _ r h => by simp [redpencilref13_Flaw.j0] at h
  | k + 1 => by
    have ih0 := redpencilref13_Flaw.mono_l k
    · intro y0 y1 y2 y3 y4 y5 y6 y7
      unfold redpencilref13_Flaw.j0
      repeat' first
      | (with_reducible exact ih0 _ _ _ _ _ _ _ _)
      | (with_reducible exact redpencilref10_Find.mono _ _ _ _)
      | (with_reducible exact LeO.refl _)
      | (with_reducible exact LeO.none _)
      | (with_reducible refine LeO.ite ?_ ?_)
      | (with_reducible refine LeO.bind ?_ (fun _ => ?_))
      | exact ih0 _ _ _ _ _ _ _ _
      | exact redpencilref10_Find.mono _ _ _ _
      | exact LeO.none _
      | refine LeO.ite ?_ ?_
      | refine LeO.bind ?_ (fun _ => ?_)
theorem redpencilref13_Flaw.mono : ∀ a0 a1 k, LeO (redpencilref13_Flaw.f k a0 a1) (redpencilref13_Flaw.f (k + 1) a0 a1) := by
  intro a0 a1 k
  have ih0 := redpencilref13_Flaw.mono_l k
  unfold redpencilref13_Flaw.f
  repeat' first
      | (with_reducible exact ih0 _ _ _ _ _ _ _ _)
      | (with_reducible exact redpencilref10_Find.mono _ _ _ _)
      | (with_reducible exact LeO.refl _)
      | (with_reducible exact LeO.none _)
      | (with_reducible refine LeO.ite ?_ ?_)
      | (with_reducible refine LeO.bind ?_ (fun _ => ?_))
      | exact ih0 _ _ _ _ _ _ _ _
      | exact redpencilref10_Find.mono _ _ _ _
      | exact LeO.none _
      | refine LeO.ite ?_ ?_
      | refine LeO.bind ?_ (fun _ => ?_)
def redpencilref13_Flaw.T4 : Bool × List (List Nat × List Nat) := (true, [([], []), ([0], [0]), ([1], [1]), ([2], [2]), ([2], [2]), ([4, 2], [2, 4]), ([3, 5, 2], [2, 3, 5]), ([6, 2], [2, 6]), ([7, 2], [2, 7]), ([2], [2]), ([9, 2], [2, 9]), ([8, 10, 2, 2], [2, 8, 10]), ([11, 2], [2, 11]), ([2, 12], [2, 12])])
def redpencilref13_Flaw.B4 : List Nat := [0, 1, 3, 7, 7, 23, 63, 127, 255, 7, 519, 2047, 4095, 8191]
theorem redpencilref13_Flaw.tab4 : rtab .any (opsOf Tryd.f37 4) = redpencilref13_Flaw.T4 := by kernel_rfl
theorem redpencilref13_Flaw.bits4 : waitsOk redpencilref13_Flaw.T4.2 redpencilref13_Flaw.B4 = true := by kernel_rfl
def redpencilref13_Flaw.T11 : Bool × List (List Nat × List Nat) := (true, [([], []), ([0], [0]), ([], []), ([], []), ([2, 3], [2, 3]), ([4], [4]), ([5], [5]), ([1, 6], [1, 6])])
def redpencilref13_Flaw.B11 : List Nat := [0, 1, 0, 0, 12, 28, 60, 127]
theorem redpencilref13_Flaw.tab11 : rtab .any (opsOf Tryd.f37 11) = redpencilref13_Flaw.T11 := by kernel_rfl
theorem redpencilref13_Flaw.bits11 : waitsOk redpencilref13_Flaw.T11.2 redpencilref13_Flaw.B11 = true := by kernel_rfl
set_option maxHeartbeats 8000000 in
set_option maxRecDepth 100000 in
theorem redpencilref13_Flaw.calls (k : Nat) (A0 : Option Addr) (c0 : Nat) (l0 : List (S37)) (a1 : Int) (r : Int) (w : World) (hr0 : Kd.C k37 w A0 l0.length l0) (hc0 : l0.length ≤ c0) (h : redpencilref13_Flaw.f k l0 a1 = some r) :
    Calls Tryd.prog 37 #[.slice A0 l0.length c0, .int .i64 a1] w fun e w' => e = .returned (.int .i64 r) ∧ Below w.heap.size w w' := by
  have hu37 := Tryd.underlying37
  have hu35 := Tryd.underlying35
  have HR0 := Aside0.mk hr0
  have HC0 := Aside0.mk hc0
  clear hr0 hc0
  have HB := Aside0.mk (Below.refl w.heap.size w)
  have H : (if 0 ≤ a1 then (if a1 < (l0.length : Int) then ((redpencilref09_Valid.f ((rd_T37 l0 a1).f0.f0) ((rd_T37 l0 a1).f0.f1) ((rd_T37 l0 a1).f1.f0) ((rd_T37 l0 a1).f1.f1) ((rd_T37 l0 a1).f2) ((rd_T37 l0 a1).f3)).bind fun t315 => (if t315 = true then (if a1 > 0 then (if 0 ≤ (wrap64 (a1 - 1)) then (if (wrap64 (a1 - 1)) < (l0.length : Int) then ((redpencilref04_Less.f ((rd_T37 l0 (wrap64 (a1 - 1))).f0.f0) ((rd_T37 l0 (wrap64 (a1 - 1))).f0.f1) ((rd_T37 l0 a1).f0.f0) ((rd_T37 l0 a1).f0.f1)).bind fun t317 => (redpencilref13_Flaw.j0 k l0 (!t317) ((rd_T37 l0 a1).f0.f0) ((rd_T37 l0 a1).f0.f1) ((rd_T37 l0 a1).f1.f0) ((rd_T37 l0 a1).f1.f1) ((rd_T37 l0 a1).f2) ((rd_T37 l0 a1).f3))) else (none)) else (none)) else (redpencilref13_Flaw.j0 k l0 false ((rd_T37 l0 a1).f0.f0) ((rd_T37 l0 a1).f0.f1) ((rd_T37 l0 a1).f1.f0) ((rd_T37 l0 a1).f1.f1) ((rd_T37 l0 a1).f2) ((rd_T37 l0 a1).f3))) else (some 1))) else (none)) else (none)) = some r := h
  clear h
  by_cases c3 : 0 ≤ a1
  · rw [if_pos c3] at H
    have c3b0 : decide (0 ≤ a1) = true := decide_eq_true c3
    clear c3
    by_cases c4 : a1 < (l0.length : Int)
    · rw [if_pos c4] at H
      have c4b0 : decide (a1 < (l0.length : Int)) = true := decide_eq_true c4
      clear c4
      replace H := Option.bind_eq_some_iff.mp H
      obtain ⟨t315, A50, H⟩ := H
      replace H : (if t315 = true then (if a1 > 0 then (if 0 ≤ (wrap64 (a1 - 1)) then (if (wrap64 (a1 - 1)) < (l0.length : Int) then ((redpencilref04_Less.f ((rd_T37 l0 (wrap64 (a1 - 1))).f0.f0) ((rd_T37 l0 (wrap64 (a1 - 1))).f0.f1) ((rd_T37 l0 a1).f0.f0) ((rd_T37 l0 a1).f0.f1)).bind fun t317 => (redpencilref13_Flaw.j0 k l0 (!t317) ((rd_T37 l0 a1).f0.f0) ((rd_T37 l0 a1).f0.f1) ((rd_T37 l0 a1).f1.f0) ((rd_T37 l0 a1).f1.f1) ((rd_T37 l0 a1).f2) ((rd_T37 l0 a1).f3))) else (none)) else (none)) else (redpencilref13_Flaw.j0 k l0 false ((rd_T37 l0 a1).f0.f0) ((rd_T37 l0 a1).f0.f1) ((rd_T37 l0 a1).f1.f0) ((rd_T37 l0 a1).f1.f1) ((rd_T37 l0 a1).f2) ((rd_T37 l0 a1).f3))) else (some 1)) = some r := H
      have A5 := Aside0.mk A50
      clear A50
      by_cases c6 : t315 = true
      · subst c6
        have H1 : (if a1 > 0 then (if 0 ≤ (wrap64 (a1 - 1)) then (if (wrap64 (a1 - 1)) < (l0.length : Int) then ((redpencilref04_Less.f ((rd_T37 l0 (wrap64 (a1 - 1))).f0.f0) ((rd_T37 l0 (wrap64 (a1 - 1))).f0.f1) ((rd_T37 l0 a1).f0.f0) ((rd_T37 l0 a1).f0.f1)).bind fun t317 => (redpencilref13_Flaw.j0 k l0 (!t317) ((rd_T37 l0 a1).f0.f0) ((rd_T37 l0 a1).f0.f1) ((rd_T37 l0 a1).f1.f0) ((rd_T37 l0 a1).f1.f1) ((rd_T37 l0 a1).f2) ((rd_T37 l0 a1).f3))) else (none)) else (none)) else (redpencilref13_Flaw.j0 k l0 false ((rd_T37 l0 a1).f0.f0) ((rd_T37 l0 a1).f0.f1) ((rd_T37 l0 a1).f1.f0) ((rd_T37 l0 a1).f1.f1) ((rd_T37 l0 a1).f2) ((rd_T37 l0 a1).f3))) = some r := by rw [if_pos rfl] at H; exact H
        clear H
        have H := H1
        clear H1
        have HC7 := Aside0.mk H
        clear H
        have p313 : 0 ≤ (a1 : Int) := of_decide_eq_true (by first | (with_reducible assumption) | assumption)
        have q313 : a1 < (l0.length : Int) := of_decide_eq_true (by first | (with_reducible assumption) | assumption)
        obtain ⟨ad313, e313, hx313_0, hx313_1, hx313_2, hx313_3, hx313_4, hx313_5⟩ := at_T37 HR0.out a1 p313 q313
        cases e313
        replace p313 := eq_true p313
        replace q313 := eq_true q313
        go_enter Tryd.func37, Tryd.ntmps37
        go_upto_region 4 with (first | ((with_reducible refine gate_dst (N := 5) rfl ?_); refine box_event ?hg (N := 5) ?hd (cs := #[.int .i64 0, .int .i64 0, .int .i64 0, .int .i64 0, .int .i64 0, .int .i32 0]) (t := 37) ?hr ?_; (case hd => rfl); (case hg => rfl); (case hr => first | (go_simp; done) | (go_simp; rfl)); intro gb314 hg w8 hbox hb; have n0_ := Aside0.mk (below_step (by repeat (first | (with_reducible first | exact HB.out | apply below_alloc | apply pw_below_drewN | apply below_drew1) | exact HB.out)) hb); have n1_ := Aside0.mk (hbox); have n2_ := Aside0.mk ((by rw [hg]; exact (below_size (by repeat (first | (with_reducible first | exact HB.out | apply below_alloc | apply pw_below_drewN | apply below_drew1) | exact HB.out))) : w.heap.size ≤ gb314)); have n3_ := Aside0.mk ((by rw [hg]; exact (below_size (by repeat (first | (with_reducible first | exact HB.out | apply below_alloc | apply pw_below_drewN | apply below_drew1) | exact HB.out))) : w.heap.size ≤ gb314)); clear HB; have HB := n0_; have BK314 := n1_; have GW314 := n2_; have GE314 := n3_; clear n0_ n1_ n2_ n3_; clear hb hbox hg; have hcz9_0 : w8.cell? ⟨gb314, 0, none⟩ = some (.int .i64 0) := (blk_cell BK314.out 0).trans rfl; have hcz9_1 : w8.cell? ⟨gb314, 1, none⟩ = some (.int .i64 0) := (blk_cell BK314.out 1).trans rfl; have hcz9_2 : w8.cell? ⟨gb314, 2, none⟩ = some (.int .i64 0) := (blk_cell BK314.out 2).trans rfl; have hcz9_3 : w8.cell? ⟨gb314, 3, none⟩ = some (.int .i64 0) := (blk_cell BK314.out 3).trans rfl; have hcz9_4 : w8.cell? ⟨gb314, 4, none⟩ = some (.int .i64 0) := (blk_cell BK314.out 4).trans rfl; have hcz9_5 : w8.cell? ⟨gb314, 5, none⟩ = some (.int .i32 0) := (blk_cell BK314.out 5).trans rfl; have hfz9_0 := blk_frozen BK314.out 0; have hfz9_1 := blk_frozen BK314.out 1; have hfz9_2 := blk_frozen BK314.out 2; have hfz9_3 := blk_frozen BK314.out 3; have hfz9_4 := blk_frozen BK314.out 4; have hfz9_5 := blk_frozen BK314.out 5) | ((with_reducible refine gate_callee (f := 38) rfl ?_); refine goesL_ (some 12) rfl rfl Tryd.func38 (by kernel_rfl) rfl #[.agg #[.int .i64 ((rd_T37 l0 a1).f0.f0), .int .i64 ((rd_T37 l0 a1).f0.f1), .int .i64 ((rd_T37 l0 a1).f1.f0), .int .i64 ((rd_T37 l0 a1).f1.f1), .int .i64 ((rd_T37 l0 a1).f2), .int .i32 ((rd_T37 l0 a1).f3)]] rfl (by (try simp only [List.map_toArray, List.map_cons, List.map_nil]); first | done | rfl | (simp only [List.length_drop, List.length_take]; rfl)) ?_; (with_reducible refine (redpencilref09_Valid.calls ((rd_T37 l0 a1).f0.f0) ((rd_T37 l0 a1).f0.f1) ((rd_T37 l0 a1).f1.f0) ((rd_T37 l0 a1).f1.f1) ((rd_T37 l0 a1).f2) ((rd_T37 l0 a1).f3) true _ A5.out).mono ?_); rintro e w10 ⟨rfl, hb⟩; refine ⟨_, rfl, ?_⟩; have n0_ := Aside0.mk (blk_below (g := gb314) (o := .cells #[.int .i64 ((rd_T37 l0 a1).f0.f0), .int .i64 ((rd_T37 l0 a1).f0.f1), .int .i64 ((rd_T37 l0 a1).f1.f0), .int .i64 ((rd_T37 l0 a1).f1.f1), .int .i64 ((rd_T37 l0 a1).f2), .int .i32 ((rd_T37 l0 a1).f3)] 37 (0, 0)) (by (with_reducible repeat (first | refine blk_drewN ?_ _ | refine blk_drew ?_ | refine blk_alloc ?_ _)); refine blk_put (cs := #[.int .i64 ((rd_T37 l0 a1).f0.f0), .int .i64 ((rd_T37 l0 a1).f0.f1), .int .i64 ((rd_T37 l0 a1).f1.f0), .int .i64 ((rd_T37 l0 a1).f1.f1), .int .i64 ((rd_T37 l0 a1).f2), .int .i32 0]) ?_ 5 _ rfl; (with_reducible repeat (first | refine blk_drewN ?_ _ | refine blk_drew ?_ | refine blk_alloc ?_ _)); refine blk_put (cs := #[.int .i64 ((rd_T37 l0 a1).f0.f0), .int .i64 ((rd_T37 l0 a1).f0.f1), .int .i64 ((rd_T37 l0 a1).f1.f0), .int .i64 ((rd_T37 l0 a1).f1.f1), .int .i64 0, .int .i32 0]) ?_ 4 _ rfl; (with_reducible repeat (first | refine blk_drewN ?_ _ | refine blk_drew ?_ | refine blk_alloc ?_ _)); refine blk_put (cs := #[.int .i64 ((rd_T37 l0 a1).f0.f0), .int .i64 ((rd_T37 l0 a1).f0.f1), .int .i64 ((rd_T37 l0 a1).f1.f0), .int .i64 0, .int .i64 0, .int .i32 0]) ?_ 3 _ rfl; (with_reducible repeat (first | refine blk_drewN ?_ _ | refine blk_drew ?_ | refine blk_alloc ?_ _)); refine blk_put (cs := #[.int .i64 ((rd_T37 l0 a1).f0.f0), .int .i64 ((rd_T37 l0 a1).f0.f1), .int .i64 0, .int .i64 0, .int .i64 0, .int .i32 0]) ?_ 2 _ rfl; (with_reducible repeat (first | refine blk_drewN ?_ _ | refine blk_drew ?_ | refine blk_alloc ?_ _)); refine blk_put (cs := #[.int .i64 ((rd_T37 l0 a1).f0.f0), .int .i64 0, .int .i64 0, .int .i64 0, .int .i64 0, .int .i32 0]) ?_ 1 _ rfl; (with_reducible repeat (first | refine blk_drewN ?_ _ | refine blk_drew ?_ | refine blk_alloc ?_ _)); refine blk_put (cs := #[.int .i64 0, .int .i64 0, .int .i64 0, .int .i64 0, .int .i64 0, .int .i32 0]) ?_ 0 _ rfl; (with_reducible repeat (first | refine blk_drewN ?_ _ | refine blk_drew ?_ | refine blk_alloc ?_ _)); exact BK314.out) hb); have n1_ := Aside0.mk (below_step (by repeat (first | (with_reducible first | exact HB.out | apply below_alloc | apply pw_below_drewN | apply below_drew1 | refine below_set ?_ GE314.out) | exact HB.out)) hb); clear BK314; clear HB; have BK314 := n0_; have HB := n1_; clear n0_ n1_; (try clear hb); (try clear hb2); (try clear hk); (try clear hi)))
        (try simp only [Act.put, List.setIfInBounds_toArray, List.set_cons_zero, List.set_cons_succ])
        go_cut [27] (fun v27 wc => ∃ (kq : Nat) (x27_6 : Bool), v27 = .bool x27_6 ∧ Aside0 (redpencilref13_Flaw.j0 kq l0 x27_6 ((rd_T37 l0 a1).f0.f0) ((rd_T37 l0 a1).f0.f1) ((rd_T37 l0 a1).f1.f0) ((rd_T37 l0 a1).f1.f1) ((rd_T37 l0 a1).f2) ((rd_T37 l0 a1).f3) = some r) ∧ Aside0 (kq ≤ k) ∧ Aside0 (wc.heap[gb314]? = some (.cells #[.int .i64 ((rd_T37 l0 a1).f0.f0), .int .i64 ((rd_T37 l0 a1).f0.f1), .int .i64 ((rd_T37 l0 a1).f1.f0), .int .i64 ((rd_T37 l0 a1).f1.f1), .int .i64 ((rd_T37 l0 a1).f2), .int .i32 ((rd_T37 l0 a1).f3)] 37 (0, 0))) ∧ Aside0 (Below w.heap.size w wc))
        case first =>
          have H := HC7.out
          clear HC7
          by_cases c11 : a1 > 0
          · rw [if_pos c11] at H
            have c11b0 : decide (0 < a1) = true := decide_eq_true c11
            clear c11
            (first | rw [c11b0] | (simp only [i64_w, i32_w]; rw [c11b0]) | rw [c11b1] | skip)
            obtain ⟨ji12, hji12⟩ : ∃ j_ : Int, (wrap64 (a1 - 1)) = j_ := ⟨_, rfl⟩
            replace H : (if 0 ≤ (ji12) then (if (ji12) < (l0.length : Int) then ((redpencilref04_Less.f ((rd_T37 l0 (ji12)).f0.f0) ((rd_T37 l0 (ji12)).f0.f1) ((rd_T37 l0 a1).f0.f0) ((rd_T37 l0 a1).f0.f1)).bind fun t317 => (redpencilref13_Flaw.j0 k l0 (!t317) ((rd_T37 l0 a1).f0.f0) ((rd_T37 l0 a1).f0.f1) ((rd_T37 l0 a1).f1.f0) ((rd_T37 l0 a1).f1.f1) ((rd_T37 l0 a1).f2) ((rd_T37 l0 a1).f3))) else (none)) else (none)) = some r := by first | (rw [hji12] at H; exact H) | (simp only [hji12] at H ⊢; exact H)
            have hji12w : (IntKind.i64.wrap (a1 - 1)) = ji12 := (i64_w _).trans hji12
            by_cases c13 : 0 ≤ (ji12)
            · rw [if_pos c13] at H
              have c13b0 : decide (0 ≤ (ji12)) = true := decide_eq_true c13
              clear c13
              by_cases c14 : (ji12) < (l0.length : Int)
              · rw [if_pos c14] at H
                have c14b0 : decide ((ji12) < (l0.length : Int)) = true := decide_eq_true c14
                clear c14
                replace H := Option.bind_eq_some_iff.mp H
                obtain ⟨t317, A150, H⟩ := H
                replace H : (redpencilref13_Flaw.j0 k l0 (!t317) ((rd_T37 l0 a1).f0.f0) ((rd_T37 l0 a1).f0.f1) ((rd_T37 l0 a1).f1.f0) ((rd_T37 l0 a1).f1.f1) ((rd_T37 l0 a1).f2) ((rd_T37 l0 a1).f3)) = some r := H
                have A15 := Aside0.mk A150
                clear A150
                have H' := Aside0.mk H
                clear H
                try go_wp2
                have n0_ := Aside0.mk (blk_drew BK314.out)
                have n1_ := Aside0.mk (below_drew1 HB.out)
                clear BK314
                clear HB
                have BK314 := n0_
                have HB := n1_
                clear n0_ n1_
                have p316 : 0 ≤ ((ji12) : Int) := of_decide_eq_true (by first | (with_reducible assumption) | assumption)
                have q316 : (ji12) < (l0.length : Int) := of_decide_eq_true (by first | (with_reducible assumption) | assumption)
                obtain ⟨ad316, e316, hx316_0, hx316_1, hx316_2, hx316_3, hx316_4, hx316_5⟩ := at_T37 HR0.out (ji12) p316 q316
                have hw316_5 := hx316_5
                have hw316_4 := hx316_4
                have hw316_3 := hx316_3
                have hw316_2 := hx316_2
                have hw316_1 := hx316_1
                have hw316_0 := hx316_0
                obtain rfl : ad313 = ad316 := (by injection e316)
                replace hx316_0 := (HB.out.cell (World.block_lt_of_cell? w _ hx316_0)).trans hx316_0
                replace hx316_1 := (HB.out.cell (World.block_lt_of_cell? w _ hx316_1)).trans hx316_1
                replace hx316_2 := (HB.out.cell (World.block_lt_of_cell? w _ hx316_2)).trans hx316_2
                replace hx316_3 := (HB.out.cell (World.block_lt_of_cell? w _ hx316_3)).trans hx316_3
                replace hx316_4 := (HB.out.cell (World.block_lt_of_cell? w _ hx316_4)).trans hx316_4
                replace hx316_5 := (HB.out.cell (World.block_lt_of_cell? w _ hx316_5)).trans hx316_5
                replace p316 := eq_true p316
                replace q316 := eq_true q316
                refine start_ (n := 14) (S := fun w' => w'.cell? ⟨gb314, 0, none⟩ = some (.int .i64 ((rd_T37 l0 a1).f0.f0)) ∧ w'.cell? ⟨gb314, 1, none⟩ = some (.int .i64 ((rd_T37 l0 a1).f0.f1)) ∧ w'.cell? ⟨gb314, 2, none⟩ = some (.int .i64 ((rd_T37 l0 a1).f1.f0)) ∧ w'.cell? ⟨gb314, 3, none⟩ = some (.int .i64 ((rd_T37 l0 a1).f1.f1)) ∧ w'.cell? ⟨gb314, 4, none⟩ = some (.int .i64 ((rd_T37 l0 a1).f2)) ∧ w'.cell? ⟨gb314, 5, none⟩ = some (.int .i32 ((rd_T37 l0 a1).f3)) ∧ w'.cell? (ad313.add (((ji12)).toNat * 6)) = some (.int .i64 ((rd_T37 l0 (ji12)).f0.f0)) ∧ w'.cell? ⟨(ad313.add (((ji12)).toNat * 6)).block, (ad313.add (((ji12)).toNat * 6)).off + 1, none⟩ = some (.int .i64 ((rd_T37 l0 (ji12)).f0.f1)) ∧ w'.cell? ⟨(ad313.add (((ji12)).toNat * 6)).block, (ad313.add (((ji12)).toNat * 6)).off + 2, none⟩ = some (.int .i64 ((rd_T37 l0 (ji12)).f1.f0)) ∧ w'.cell? ⟨(ad313.add (((ji12)).toNat * 6)).block, (ad313.add (((ji12)).toNat * 6)).off + 3, none⟩ = some (.int .i64 ((rd_T37 l0 (ji12)).f1.f1)) ∧ w'.cell? ⟨(ad313.add (((ji12)).toNat * 6)).block, (ad313.add (((ji12)).toNat * 6)).off + 4, none⟩ = some (.int .i64 ((rd_T37 l0 (ji12)).f2)) ∧ w'.cell? ⟨(ad313.add (((ji12)).toNat * 6)).block, (ad313.add (((ji12)).toNat * 6)).off + 5, none⟩ = some (.int .i32 ((rd_T37 l0 (ji12)).f3))) (ds := []) #[false, false, false, false, false, false, false, false, false, false, false, false, false, false] (by kernel_rfl) rfl rfl ⟨(blk_cell BK314.out 0).trans rfl, (blk_cell BK314.out 1).trans rfl, (blk_cell BK314.out 2).trans rfl, (blk_cell BK314.out 3).trans rfl, (blk_cell BK314.out 4).trans rfl, (blk_cell BK314.out 5).trans rfl, ((HB.out.cell (World.block_lt_of_cell? w _ hw316_0)).trans hw316_0), ((HB.out.cell (World.block_lt_of_cell? w _ hw316_1)).trans hw316_1), ((HB.out.cell (World.block_lt_of_cell? w _ hw316_2)).trans hw316_2), ((HB.out.cell (World.block_lt_of_cell? w _ hw316_3)).trans hw316_3), ((HB.out.cell (World.block_lt_of_cell? w _ hw316_4)).trans hw316_4), ((HB.out.cell (World.block_lt_of_cell? w _ hw316_5)).trans hw316_5)⟩ (fun hHeld => ?_); refine with_tabW redpencilref13_Flaw.tab4 redpencilref13_Flaw.bits4 (fun HT_ HW_ => ?_)
                generalize w10.drew = w16 at BK314 HB hx316_0 hx316_1 hx316_2 hx316_3 hx316_4 hx316_5 hHeld ⊢
                refine pure_ (i := 0) (N := some 14) (v := ?_) (a' := ?_) #[true, false, false, false, false, false, false, false, false, false, false, false, false, false] rfl rfl (any_of HT_.out (by kernel_rfl)) (fun _ _ _ h => h) (Or.inl ⟨by rfl, ?_⟩) ?_ ?_
                rotate_left
                · intro w'
                  go_simp
                  with_reducible rfl
                rotate_left
                · simp only [Act.put, List.setIfInBounds_toArray, List.set_cons_zero, List.set_cons_succ, i64_w, i32_w]
                  rfl
                refine pure_ (i := 1) (N := some 15) (v := ?_) (a' := ?_) #[true, true, false, false, false, false, false, false, false, false, false, false, false, false] rfl rfl (any_of HT_.out (by kernel_rfl)) (fun _ _ _ h => h) (Or.inl ⟨by rfl, ?_⟩) ?_ ?_
                rotate_left
                · intro w'
                  go_simp
                  with_reducible rfl
                rotate_left
                · simp only [Act.put, List.setIfInBounds_toArray, List.set_cons_zero, List.set_cons_succ, i64_w, i32_w]
                  rfl
                refine pure_ (i := 2) (N := some 16) (v := ?_) (a' := ?_) #[true, true, true, false, false, false, false, false, false, false, false, false, false, false] rfl rfl (any_of HT_.out (by kernel_rfl)) (fun _ _ _ h => h) (Or.inl ⟨by rfl, ?_⟩) ?_ ?_
                rotate_left
                · intro w'
                  go_simp
                  with_reducible rfl
                rotate_left
                · simp only [Act.put, List.setIfInBounds_toArray, List.set_cons_zero, List.set_cons_succ, i64_w, i32_w]
                  rfl
                refine pure_ (i := 3) (N := some 17) (v := ?_) (a' := ?_) #[true, true, true, true, false, false, false, false, false, false, false, false, false, false] rfl rfl (any_of HT_.out (by kernel_rfl)) (fun _ _ _ h => h) (Or.inl ⟨by rfl, ?_⟩) ?_ ?_
                rotate_left
                · intro w'
                  go_simp
                  with_reducible rfl
                rotate_left
                · simp only [Act.put, List.setIfInBounds_toArray, List.set_cons_zero, List.set_cons_succ, i64_w, i32_w]
                  rfl
                refine pure_ (i := 4) (N := some 18) (v := ?_) (a' := ?_) #[true, true, true, true, true, false, false, false, false, false, false, false, false, false] rfl rfl (any_of HT_.out (by kernel_rfl)) (fun _ _ _ h => h) (Or.inl ⟨by rfl, ?_⟩) ?_ ?_
                rotate_left
                · intro w'
                  go_simp
                  with_reducible rfl
                rotate_left
                · simp only [Act.put, List.setIfInBounds_toArray, List.set_cons_zero, List.set_cons_succ, i64_w, i32_w]
                  rfl
                refine pure_ (i := 5) (N := some 19) (v := ?_) (a' := ?_) #[true, true, true, true, true, true, false, false, false, false, false, false, false, false] rfl rfl (any_of HT_.out (by kernel_rfl)) (fun _ _ _ h => h) (Or.inl ⟨by rfl, ?_⟩) ?_ ?_
                rotate_left
                · intro w'
                  go_simp
                  with_reducible rfl
                rotate_left
                · simp only [Act.put, List.setIfInBounds_toArray, List.set_cons_zero, List.set_cons_succ, i64_w, i32_w]
                  rfl
                refine pure_ (i := 6) (N := some 20) (v := ?_) (a' := ?_) #[true, true, true, true, true, true, true, false, false, false, false, false, false, false] rfl rfl (any_of HT_.out (by kernel_rfl)) (fun _ _ _ h => h) (Or.inl ⟨by rfl, ?_⟩) ?_ ?_
                rotate_left
                · intro w'
                  go_simp
                  with_reducible rfl
                rotate_left
                · simp only [Act.put, List.setIfInBounds_toArray, List.set_cons_zero, List.set_cons_succ, i64_w, i32_w]
                  rfl
                refine pure_ (i := 7) (N := some 21) (v := ?_) (a' := ?_) #[true, true, true, true, true, true, true, true, false, false, false, false, false, false] rfl rfl (any_of HT_.out (by kernel_rfl)) (fun _ _ _ h => h) (Or.inl ⟨by rfl, ?_⟩) ?_ ?_
                rotate_left
                · intro w'
                  go_simp
                  with_reducible rfl
                rotate_left
                · simp only [Act.put, List.setIfInBounds_toArray, List.set_cons_zero, List.set_cons_succ, i64_w, i32_w]
                  rfl
                refine pure_ (i := 9) (N := some 23) (v := ?_) (a' := ?_) #[true, true, true, true, true, true, true, true, false, true, false, false, false, false] rfl rfl (any_of HT_.out (by kernel_rfl)) (fun _ _ _ h => h) (Or.inl ⟨by rfl, ?_⟩) ?_ ?_
                rotate_left
                · intro w'
                  go_simp
                  with_reducible rfl
                rotate_left
                · simp only [Act.put, List.setIfInBounds_toArray, List.set_cons_zero, List.set_cons_succ, i64_w, i32_w]
                  rfl
                refine take_ (i := 8) (N := some 22) (v := ?_) (a' := ?_) #[true, true, true, true, true, true, true, true, true, true, false, false, false, false] rfl rfl (take_ofW HT_.out HW_.out (by kernel_rfl)) (fun _ _ _ h => h) (Or.inl ⟨by rfl, ?_⟩) hHeld ?_ ?_
                rotate_left
                · rintro w' ⟨s0, s1, s2, s3, s4, s5, s6, s7, s8, s9, s10, s11⟩
                  go_simp
                  with_reducible rfl
                rotate_left
                · simp only [Act.put, List.setIfInBounds_toArray, List.set_cons_zero, List.set_cons_succ, i64_w, i32_w]
                  rfl
                refine take_ (i := 10) (N := some 24) (v := ?_) (a' := ?_) #[true, true, true, true, true, true, true, true, true, true, true, false, false, false] rfl rfl (take_ofW HT_.out HW_.out (by kernel_rfl)) (fun _ _ _ h => h) (Or.inl ⟨by rfl, ?_⟩) hHeld ?_ ?_
                rotate_left
                · rintro w' ⟨s0, s1, s2, s3, s4, s5, s6, s7, s8, s9, s10, s11⟩
                  go_simp
                  with_reducible rfl
                rotate_left
                · simp only [Act.put, List.setIfInBounds_toArray, List.set_cons_zero, List.set_cons_succ, i64_w, i32_w]
                  rfl
                refine one_ (i := 11) (N := some 25) #[true, true, true, true, true, true, true, true, true, true, true, true, false, false] rfl rfl (one_of HT_.out (by kernel_rfl)) (by decide) (fun K hK => ?_)
                refine goes_ Tryd.func39 (by kernel_rfl) rfl #[.agg #[.int .i64 ((rd_T37 l0 (ji12)).f0.f0), .int .i64 ((rd_T37 l0 (ji12)).f0.f1)], .agg #[.int .i64 ((rd_T37 l0 a1).f0.f0), .int .i64 ((rd_T37 l0 a1).f0.f1)]] (by rfl) rfl rfl (by (try simp only [List.map_toArray, List.map_cons, List.map_nil]); first | done | (simp only [hji12]; rfl) | rfl | (simp only [List.length_drop, List.length_take]; rfl)) ?_
                with_reducible refine (redpencilref04_Less.calls ((rd_T37 l0 (ji12)).f0.f0) ((rd_T37 l0 (ji12)).f0.f1) ((rd_T37 l0 a1).f0.f0) ((rd_T37 l0 a1).f0.f1) t317 _ A15.out).mono ?_
                rintro e w17 ⟨rfl, hb⟩
                refine ⟨_, rfl, ?_⟩
                have n0_ := Aside0.mk (blk_below (g := gb314) (o := .cells #[.int .i64 ((rd_T37 l0 a1).f0.f0), .int .i64 ((rd_T37 l0 a1).f0.f1), .int .i64 ((rd_T37 l0 a1).f1.f0), .int .i64 ((rd_T37 l0 a1).f1.f1), .int .i64 ((rd_T37 l0 a1).f2), .int .i32 ((rd_T37 l0 a1).f3)] 37 (0, 0)) (by (with_reducible repeat (first | refine blk_drewN ?_ _ | refine blk_drew ?_ | refine blk_alloc ?_ _)); exact BK314.out) hb)
                have n1_ := Aside0.mk (below_step (by repeat (first | (with_reducible first | exact HB.out | apply below_alloc | apply pw_below_drewN | apply below_drew1 | refine below_set ?_ GE314.out) | exact HB.out)) hb)
                clear BK314
                clear HB
                have BK314 := n0_
                have HB := n1_
                clear n0_ n1_
                (try clear hb)
                (try clear hb2)
                (try clear hk)
                (try clear hi)
                refine hK.out _ _ ⟨(blk_cell BK314.out 0).trans rfl, (blk_cell BK314.out 1).trans rfl, (blk_cell BK314.out 2).trans rfl, (blk_cell BK314.out 3).trans rfl, (blk_cell BK314.out 4).trans rfl, (blk_cell BK314.out 5).trans rfl, ((HB.out.cell (World.block_lt_of_cell? w _ hw316_0)).trans hw316_0), ((HB.out.cell (World.block_lt_of_cell? w _ hw316_1)).trans hw316_1), ((HB.out.cell (World.block_lt_of_cell? w _ hw316_2)).trans hw316_2), ((HB.out.cell (World.block_lt_of_cell? w _ hw316_3)).trans hw316_3), ((HB.out.cell (World.block_lt_of_cell? w _ hw316_4)).trans hw316_4), ((HB.out.cell (World.block_lt_of_cell? w _ hw316_5)).trans hw316_5)⟩ (fun hHeld => ?_)
                clear hK K
                refine norm_ (a' := ?_) ?_ ?_
                rotate_left
                · show Act.put _ (some 25) _ = _
                  simp only [Act.put, List.setIfInBounds_toArray, List.set_cons_zero, List.set_cons_succ, i64_w, i32_w]
                  rfl
                refine pure_ (i := 12) (N := some 26) (v := ?_) (a' := ?_) #[true, true, true, true, true, true, true, true, true, true, true, true, true, false] rfl rfl (any_of HT_.out (by kernel_rfl)) (fun _ _ _ h => h) (Or.inl ⟨by rfl, ?_⟩) ?_ ?_
                rotate_left
                · intro w'
                  go_simp
                  with_reducible rfl
                rotate_left
                · simp only [Act.put, List.setIfInBounds_toArray, List.set_cons_zero, List.set_cons_succ, i64_w, i32_w]
                  rfl
                refine pure_ (i := 13) (N := some 27) (v := ?_) (a' := ?_) #[true, true, true, true, true, true, true, true, true, true, true, true, true, true] rfl rfl (any_of HT_.out (by kernel_rfl)) (fun _ _ _ h => h) (Or.inl ⟨by rfl, ?_⟩) ?_ ?_
                rotate_left
                · intro w'
                  go_simp
                  with_reducible rfl
                rotate_left
                · simp only [Act.put, List.setIfInBounds_toArray, List.set_cons_zero, List.set_cons_succ, i64_w, i32_w]
                  rfl
                refine done_ (done_of HT_.out (by kernel_rfl)) ?_
                try go_wp2
                go_meet
                case rel => exact ⟨_, (!t317), (by first | rfl | (simp; done) | (simp [*]; done)), H', ⟨by first | omega | exact Nat.le_refl _⟩, ⟨by (with_reducible repeat (first | refine blk_drewN ?_ _ | refine blk_drew ?_ | refine blk_alloc ?_ _)); exact BK314.out⟩, ⟨by repeat (first | (with_reducible first | exact HB.out | apply below_alloc | apply pw_below_drewN | apply below_drew1 | refine below_set ?_ GE314.out) | exact HB.out)⟩⟩
              · rw [if_neg c14] at H
                exact absurd H (by simp)
            · rw [if_neg c13] at H
              exact absurd H (by simp)
          · rw [if_neg c11] at H
            have c11b0 : decide (0 < a1) = false := decide_eq_false c11
            clear c11
            (first | rw [c11b0] | (simp only [i64_w, i32_w]; rw [c11b0]) | rw [c11b1] | skip)
            have H' := Aside0.mk H
            clear H
            try go_wp2
            have n0_ := Aside0.mk (blk_drew BK314.out)
            have n1_ := Aside0.mk (below_drew1 HB.out)
            clear BK314
            clear HB
            have BK314 := n0_
            have HB := n1_
            clear n0_ n1_
            refine start_ (n := 14) (S := fun w' => True) (ds := []) #[false, false, false, false, false, false, false, false, false, false, false, false, false, false] (by kernel_rfl) rfl rfl trivial (fun hHeld => ?_); refine with_tabW redpencilref13_Flaw.tab4 redpencilref13_Flaw.bits4 (fun HT_ HW_ => ?_)
            generalize w10.drew = w18 at BK314 HB hHeld ⊢
            refine pure_ (i := 0) (N := some 14) (v := ?_) (a' := ?_) #[true, false, false, false, false, false, false, false, false, false, false, false, false, false] rfl rfl (any_of HT_.out (by kernel_rfl)) (fun _ _ _ h => h) (Or.inl ⟨by rfl, ?_⟩) ?_ ?_
            rotate_left
            · intro w'
              go_simp
              with_reducible rfl
            rotate_left
            · simp only [Act.put, List.setIfInBounds_toArray, List.set_cons_zero, List.set_cons_succ, i64_w, i32_w]
              rfl
            refine pure_ (i := 1) (N := some 15) (v := ?_) (a' := ?_) #[true, true, false, false, false, false, false, false, false, false, false, false, false, false] rfl rfl (any_of HT_.out (by kernel_rfl)) (fun _ _ _ h => h) (Or.inl ⟨by rfl, ?_⟩) ?_ ?_
            rotate_left
            · intro w'
              go_simp
              with_reducible rfl
            rotate_left
            · simp only [Act.put, List.setIfInBounds_toArray, List.set_cons_zero, List.set_cons_succ, i64_w, i32_w]
              rfl
            refine pure_ (i := 2) (N := some 16) (v := ?_) (a' := ?_) #[true, true, true, false, false, false, false, false, false, false, false, false, false, false] rfl rfl (any_of HT_.out (by kernel_rfl)) (fun _ _ _ h => h) (Or.inl ⟨by rfl, ?_⟩) ?_ ?_
            rotate_left
            · intro w'
              go_simp
              with_reducible rfl
            rotate_left
            · simp only [Act.put, List.setIfInBounds_toArray, List.set_cons_zero, List.set_cons_succ, i64_w, i32_w]
              rfl
            refine pure_ (i := 3) (N := some 17) (v := undef) (a' := ?_) #[true, true, true, true, false, false, false, false, false, false, false, false, false, false] rfl rfl (any_of HT_.out (by kernel_rfl)) (fun _ _ _ h => h) (Or.inr ⟨by rfl, rfl⟩) ?_ ?_
            rotate_left
            · simp only [Act.put, List.setIfInBounds_toArray, List.set_cons_zero, List.set_cons_succ, i64_w, i32_w]
              rfl
            refine pure_ (i := 4) (N := some 18) (v := undef) (a' := ?_) #[true, true, true, true, true, false, false, false, false, false, false, false, false, false] rfl rfl (any_of HT_.out (by kernel_rfl)) (fun _ _ _ h => h) (Or.inr ⟨by rfl, rfl⟩) ?_ ?_
            rotate_left
            · simp only [Act.put, List.setIfInBounds_toArray, List.set_cons_zero, List.set_cons_succ, i64_w, i32_w]
              rfl
            refine pure_ (i := 5) (N := some 19) (v := undef) (a' := ?_) #[true, true, true, true, true, true, false, false, false, false, false, false, false, false] rfl rfl (any_of HT_.out (by kernel_rfl)) (fun _ _ _ h => h) (Or.inr ⟨by rfl, rfl⟩) ?_ ?_
            rotate_left
            · simp only [Act.put, List.setIfInBounds_toArray, List.set_cons_zero, List.set_cons_succ, i64_w, i32_w]
              rfl
            refine pure_ (i := 6) (N := some 20) (v := undef) (a' := ?_) #[true, true, true, true, true, true, true, false, false, false, false, false, false, false] rfl rfl (any_of HT_.out (by kernel_rfl)) (fun _ _ _ h => h) (Or.inr ⟨by rfl, rfl⟩) ?_ ?_
            rotate_left
            · simp only [Act.put, List.setIfInBounds_toArray, List.set_cons_zero, List.set_cons_succ, i64_w, i32_w]
              rfl
            refine pure_ (i := 7) (N := some 21) (v := undef) (a' := ?_) #[true, true, true, true, true, true, true, true, false, false, false, false, false, false] rfl rfl (any_of HT_.out (by kernel_rfl)) (fun _ _ _ h => h) (Or.inr ⟨by rfl, rfl⟩) ?_ ?_
            rotate_left
            · simp only [Act.put, List.setIfInBounds_toArray, List.set_cons_zero, List.set_cons_succ, i64_w, i32_w]
              rfl
            refine pure_ (i := 8) (N := some 22) (v := undef) (a' := ?_) #[true, true, true, true, true, true, true, true, true, false, false, false, false, false] rfl rfl (any_of HT_.out (by kernel_rfl)) (fun _ _ _ h => h) (Or.inr ⟨by rfl, rfl⟩) ?_ ?_
            rotate_left
            · simp only [Act.put, List.setIfInBounds_toArray, List.set_cons_zero, List.set_cons_succ, i64_w, i32_w]
              rfl
            refine pure_ (i := 9) (N := some 23) (v := undef) (a' := ?_) #[true, true, true, true, true, true, true, true, true, true, false, false, false, false] rfl rfl (any_of HT_.out (by kernel_rfl)) (fun _ _ _ h => h) (Or.inr ⟨by rfl, rfl⟩) ?_ ?_
            rotate_left
            · simp only [Act.put, List.setIfInBounds_toArray, List.set_cons_zero, List.set_cons_succ, i64_w, i32_w]
              rfl
            refine pure_ (i := 10) (N := some 24) (v := undef) (a' := ?_) #[true, true, true, true, true, true, true, true, true, true, true, false, false, false] rfl rfl (any_of HT_.out (by kernel_rfl)) (fun _ _ _ h => h) (Or.inr ⟨by rfl, rfl⟩) ?_ ?_
            rotate_left
            · simp only [Act.put, List.setIfInBounds_toArray, List.set_cons_zero, List.set_cons_succ, i64_w, i32_w]
              rfl
            refine pure_ (i := 11) (N := some 25) (v := undef) (a' := ?_) #[true, true, true, true, true, true, true, true, true, true, true, true, false, false] rfl rfl (any_of HT_.out (by kernel_rfl)) (fun _ _ _ h => h) (Or.inr ⟨by rfl, rfl⟩) ?_ ?_
            rotate_left
            · simp only [Act.put, List.setIfInBounds_toArray, List.set_cons_zero, List.set_cons_succ, i64_w, i32_w]
              rfl
            refine pure_ (i := 12) (N := some 26) (v := undef) (a' := ?_) #[true, true, true, true, true, true, true, true, true, true, true, true, true, false] rfl rfl (any_of HT_.out (by kernel_rfl)) (fun _ _ _ h => h) (Or.inr ⟨by rfl, rfl⟩) ?_ ?_
            rotate_left
            · simp only [Act.put, List.setIfInBounds_toArray, List.set_cons_zero, List.set_cons_succ, i64_w, i32_w]
              rfl
            refine pure_ (i := 13) (N := some 27) (v := ?_) (a' := ?_) #[true, true, true, true, true, true, true, true, true, true, true, true, true, true] rfl rfl (any_of HT_.out (by kernel_rfl)) (fun _ _ _ h => h) (Or.inl ⟨by rfl, ?_⟩) ?_ ?_
            rotate_left
            · intro w'
              go_simp
              with_reducible rfl
            rotate_left
            · simp only [Act.put, List.setIfInBounds_toArray, List.set_cons_zero, List.set_cons_succ, i64_w, i32_w]
              rfl
            refine done_ (done_of HT_.out (by kernel_rfl)) ?_
            try go_wp2
            go_meet
            case rel => exact ⟨_, (false), (by first | rfl | (simp; done) | (simp [*]; done)), H', ⟨by first | omega | exact Nat.le_refl _⟩, ⟨by (with_reducible repeat (first | refine blk_drewN ?_ _ | refine blk_drew ?_ | refine blk_alloc ?_ _)); exact BK314.out⟩, ⟨by repeat (first | (with_reducible first | exact HB.out | apply below_alloc | apply pw_below_drewN | apply below_drew1 | refine below_set ?_ GE314.out) | exact HB.out)⟩⟩
        case rest =>
          clear HC7
          try clear c1
          try clear p2
          try clear c3
          try clear c3b0
          try clear p3
          try clear q3
          try clear hx3
          try clear c4
          try clear c4b0
          try clear c6
          try clear p6
          try clear c11
          try clear c11b0
          try clear c13
          try clear c13b0
          try clear c14
          try clear c14b0
          try clear hcz9_0
          try clear hcz9_1
          try clear hcz9_2
          try clear hcz9_3
          try clear hcz9_4
          try clear hcz9_5
          try clear hfz9_0
          try clear hfz9_1
          try clear hfz9_2
          try clear hfz9_3
          try clear hfz9_4
          try clear hfz9_5
          try clear hx313_0
          try clear hx313_1
          try clear hx313_2
          try clear hx313_3
          try clear hx313_4
          try clear hx313_5
          try clear hx316_0
          try clear hx316_1
          try clear hx316_2
          try clear hx316_3
          try clear hx316_4
          try clear hx316_5
          try clear p313
          try clear p316
          try clear q313
          try clear q316
          obtain ⟨kq, x27_6, rfl, HA, HJ6, BK314, HB⟩ := hcut
          cases kq with
          | zero => exact absurd HA.out (by simp [redpencilref13_Flaw.j0])
          | succ kj6 =>
            have H := HA.out
            clear HA
            simp only [redpencilref13_Flaw.j0] at H
            by_cases c19 : x27_6 = true
            · subst c19
              have H1 : (some 2) = some r := by rw [if_pos rfl] at H; exact H
              clear H
              have H := H1
              clear H1
              obtain rfl := Option.some.inj H
              go_wp2
              go_ret
              exact ⟨by first | rfl | (simp [errW_none, errW_some] <;> rfl) | (simp [*, errW_none, errW_some] <;> rfl), by repeat (first | (with_reducible first | exact HB.out | apply below_alloc | apply pw_below_drewN | apply below_drew1 | refine below_set ?_ GE314.out) | exact HB.out)⟩
            · replace c19 := Bool.eq_false_iff.mpr c19
              subst c19
              have H1 : ((redpencilref04_Root.f ((rd_T37 l0 a1).f1.f0) ((rd_T37 l0 a1).f1.f1)).bind fun t318 => (if t318 = true then (some 0) else ((redpencilref10_Find.f kj6 l0 ((rd_T37 l0 a1).f1.f0) ((rd_T37 l0 a1).f1.f1)).bind fun t319 => (if t319 < 0 then (some 3) else (if 0 ≤ t319 then (if t319 < (l0.length : Int) then (if ((rd_T37 l0 a1).f2) ≤ ((rd_T37 l0 t319).f2) then (some 4) else (some 0)) else (none)) else (none)))))) = some r := by rw [if_neg (show ¬ (false = true) by decide)] at H; exact H
              clear H
              have H := H1
              clear H1
              replace H := Option.bind_eq_some_iff.mp H
              obtain ⟨t318, A200, H⟩ := H
              replace H : (if t318 = true then (some 0) else ((redpencilref10_Find.f kj6 l0 ((rd_T37 l0 a1).f1.f0) ((rd_T37 l0 a1).f1.f1)).bind fun t319 => (if t319 < 0 then (some 3) else (if 0 ≤ t319 then (if t319 < (l0.length : Int) then (if ((rd_T37 l0 a1).f2) ≤ ((rd_T37 l0 t319).f2) then (some 4) else (some 0)) else (none)) else (none))))) = some r := H
              have A20 := Aside0.mk A200
              clear A200
              by_cases c21 : t318 = true
              · subst c21
                have H1 : (some 0) = some r := by rw [if_pos rfl] at H; exact H
                clear H
                have H := H1
                clear H1
                obtain rfl := Option.some.inj H
                have hcz22_0 : wc.cell? ⟨gb314, 0, none⟩ = some (.int .i64 ((rd_T37 l0 a1).f0.f0)) := (blk_cell BK314.out 0).trans rfl
                have hcz22_1 : wc.cell? ⟨gb314, 1, none⟩ = some (.int .i64 ((rd_T37 l0 a1).f0.f1)) := (blk_cell BK314.out 1).trans rfl
                have hcz22_2 : wc.cell? ⟨gb314, 2, none⟩ = some (.int .i64 ((rd_T37 l0 a1).f1.f0)) := (blk_cell BK314.out 2).trans rfl
                have hcz22_3 : wc.cell? ⟨gb314, 3, none⟩ = some (.int .i64 ((rd_T37 l0 a1).f1.f1)) := (blk_cell BK314.out 3).trans rfl
                have hcz22_4 : wc.cell? ⟨gb314, 4, none⟩ = some (.int .i64 ((rd_T37 l0 a1).f2)) := (blk_cell BK314.out 4).trans rfl
                have hcz22_5 : wc.cell? ⟨gb314, 5, none⟩ = some (.int .i32 ((rd_T37 l0 a1).f3)) := (blk_cell BK314.out 5).trans rfl
                have hfz22_0 := blk_frozen BK314.out 0
                have hfz22_1 := blk_frozen BK314.out 1
                have hfz22_2 := blk_frozen BK314.out 2
                have hfz22_3 := blk_frozen BK314.out 3
                have hfz22_4 := blk_frozen BK314.out 4
                have hfz22_5 := blk_frozen BK314.out 5
                go_wp2_with (first | ((with_reducible refine gate_callee (f := 64) rfl ?_); refine goesL_ (some 30) rfl rfl Tryd.func64 (by kernel_rfl) rfl #[.agg #[.int .i64 ((rd_T37 l0 a1).f1.f0), .int .i64 ((rd_T37 l0 a1).f1.f1)]] rfl (by (try simp only [List.map_toArray, List.map_cons, List.map_nil]); first | done | rfl | (simp only [List.length_drop, List.length_take]; rfl)) ?_; (with_reducible refine (redpencilref04_Root.calls ((rd_T37 l0 a1).f1.f0) ((rd_T37 l0 a1).f1.f1) true _ A20.out).mono ?_); rintro e w23 ⟨rfl, hb⟩; refine ⟨_, rfl, ?_⟩; have n0_ := Aside0.mk (blk_below (g := gb314) (o := .cells #[.int .i64 ((rd_T37 l0 a1).f0.f0), .int .i64 ((rd_T37 l0 a1).f0.f1), .int .i64 ((rd_T37 l0 a1).f1.f0), .int .i64 ((rd_T37 l0 a1).f1.f1), .int .i64 ((rd_T37 l0 a1).f2), .int .i32 ((rd_T37 l0 a1).f3)] 37 (0, 0)) (by (with_reducible repeat (first | refine blk_drewN ?_ _ | refine blk_drew ?_ | refine blk_alloc ?_ _)); exact BK314.out) hb); have n1_ := Aside0.mk (below_step (by repeat (first | (with_reducible first | exact HB.out | apply below_alloc | apply pw_below_drewN | apply below_drew1 | refine below_set ?_ GE314.out) | exact HB.out)) hb); clear BK314; clear HB; have BK314 := n0_; have HB := n1_; clear n0_ n1_; (try clear hb); (try clear hb2); (try clear hk); (try clear hi)))
                go_ret
                exact ⟨by first | rfl | (simp [errW_none, errW_some] <;> rfl) | (simp [*, errW_none, errW_some] <;> rfl), by repeat (first | (with_reducible first | exact HB.out | apply below_alloc | apply pw_below_drewN | apply below_drew1 | refine below_set ?_ GE314.out) | exact HB.out)⟩
              · replace c21 := Bool.eq_false_iff.mpr c21
                subst c21
                have H1 : ((redpencilref10_Find.f kj6 l0 ((rd_T37 l0 a1).f1.f0) ((rd_T37 l0 a1).f1.f1)).bind fun t319 => (if t319 < 0 then (some 3) else (if 0 ≤ t319 then (if t319 < (l0.length : Int) then (if ((rd_T37 l0 a1).f2) ≤ ((rd_T37 l0 t319).f2) then (some 4) else (some 0)) else (none)) else (none)))) = some r := by rw [if_neg (show ¬ (false = true) by decide)] at H; exact H
                clear H
                have H := H1
                clear H1
                replace H := Option.bind_eq_some_iff.mp H
                obtain ⟨t319, A240, H⟩ := H
                replace H : (if t319 < 0 then (some 3) else (if 0 ≤ t319 then (if t319 < (l0.length : Int) then (if ((rd_T37 l0 a1).f2) ≤ ((rd_T37 l0 t319).f2) then (some 4) else (some 0)) else (none)) else (none))) = some r := H
                have A24 := Aside0.mk A240
                clear A240
                by_cases c25 : t319 < 0
                · rw [if_pos c25] at H
                  have c25b0 : decide (t319 < 0) = true := decide_eq_true c25
                  clear c25
                  obtain rfl := Option.some.inj H
                  have hcz26_0 : wc.cell? ⟨gb314, 0, none⟩ = some (.int .i64 ((rd_T37 l0 a1).f0.f0)) := (blk_cell BK314.out 0).trans rfl
                  have hcz26_1 : wc.cell? ⟨gb314, 1, none⟩ = some (.int .i64 ((rd_T37 l0 a1).f0.f1)) := (blk_cell BK314.out 1).trans rfl
                  have hcz26_2 : wc.cell? ⟨gb314, 2, none⟩ = some (.int .i64 ((rd_T37 l0 a1).f1.f0)) := (blk_cell BK314.out 2).trans rfl
                  have hcz26_3 : wc.cell? ⟨gb314, 3, none⟩ = some (.int .i64 ((rd_T37 l0 a1).f1.f1)) := (blk_cell BK314.out 3).trans rfl
                  have hcz26_4 : wc.cell? ⟨gb314, 4, none⟩ = some (.int .i64 ((rd_T37 l0 a1).f2)) := (blk_cell BK314.out 4).trans rfl
                  have hcz26_5 : wc.cell? ⟨gb314, 5, none⟩ = some (.int .i32 ((rd_T37 l0 a1).f3)) := (blk_cell BK314.out 5).trans rfl
                  have hfz26_0 := blk_frozen BK314.out 0
                  have hfz26_1 := blk_frozen BK314.out 1
                  have hfz26_2 := blk_frozen BK314.out 2
                  have hfz26_3 := blk_frozen BK314.out 3
                  have hfz26_4 := blk_frozen BK314.out 4
                  have hfz26_5 := blk_frozen BK314.out 5
                  go_wp2_with (first | ((with_reducible refine gate_callee (f := 64) rfl ?_); refine goesL_ (some 30) rfl rfl Tryd.func64 (by kernel_rfl) rfl #[.agg #[.int .i64 ((rd_T37 l0 a1).f1.f0), .int .i64 ((rd_T37 l0 a1).f1.f1)]] rfl (by (try simp only [List.map_toArray, List.map_cons, List.map_nil]); first | done | rfl | (simp only [List.length_drop, List.length_take]; rfl)) ?_; (with_reducible refine (redpencilref04_Root.calls ((rd_T37 l0 a1).f1.f0) ((rd_T37 l0 a1).f1.f1) false _ A20.out).mono ?_); rintro e w27 ⟨rfl, hb⟩; refine ⟨_, rfl, ?_⟩; have n0_ := Aside0.mk (blk_below (g := gb314) (o := .cells #[.int .i64 ((rd_T37 l0 a1).f0.f0), .int .i64 ((rd_T37 l0 a1).f0.f1), .int .i64 ((rd_T37 l0 a1).f1.f0), .int .i64 ((rd_T37 l0 a1).f1.f1), .int .i64 ((rd_T37 l0 a1).f2), .int .i32 ((rd_T37 l0 a1).f3)] 37 (0, 0)) (by (with_reducible repeat (first | refine blk_drewN ?_ _ | refine blk_drew ?_ | refine blk_alloc ?_ _)); exact BK314.out) hb); have n1_ := Aside0.mk (below_step (by repeat (first | (with_reducible first | exact HB.out | apply below_alloc | apply pw_below_drewN | apply below_drew1 | refine below_set ?_ GE314.out) | exact HB.out)) hb); clear BK314; clear HB; have BK314 := n0_; have HB := n1_; clear n0_ n1_; (try clear hb); (try clear hb2); (try clear hk); (try clear hi); have hcz28_0 : w27.cell? ⟨gb314, 0, none⟩ = some (.int .i64 ((rd_T37 l0 a1).f0.f0)) := (blk_cell BK314.out 0).trans rfl; have hcz28_1 : w27.cell? ⟨gb314, 1, none⟩ = some (.int .i64 ((rd_T37 l0 a1).f0.f1)) := (blk_cell BK314.out 1).trans rfl; have hcz28_2 : w27.cell? ⟨gb314, 2, none⟩ = some (.int .i64 ((rd_T37 l0 a1).f1.f0)) := (blk_cell BK314.out 2).trans rfl; have hcz28_3 : w27.cell? ⟨gb314, 3, none⟩ = some (.int .i64 ((rd_T37 l0 a1).f1.f1)) := (blk_cell BK314.out 3).trans rfl; have hcz28_4 : w27.cell? ⟨gb314, 4, none⟩ = some (.int .i64 ((rd_T37 l0 a1).f2)) := (blk_cell BK314.out 4).trans rfl; have hcz28_5 : w27.cell? ⟨gb314, 5, none⟩ = some (.int .i32 ((rd_T37 l0 a1).f3)) := (blk_cell BK314.out 5).trans rfl; have hfz28_0 := blk_frozen BK314.out 0; have hfz28_1 := blk_frozen BK314.out 1; have hfz28_2 := blk_frozen BK314.out 2; have hfz28_3 := blk_frozen BK314.out 3; have hfz28_4 := blk_frozen BK314.out 4; have hfz28_5 := blk_frozen BK314.out 5) | ((with_reducible refine gate_callee (f := 65) rfl ?_); refine goesL_ (some 34) rfl rfl Tryd.func65 (by kernel_rfl) rfl #[.slice (some ad313) l0.length c0, .agg #[.int .i64 ((rd_T37 l0 a1).f1.f0), .int .i64 ((rd_T37 l0 a1).f1.f1)]] rfl (by (try simp only [List.map_toArray, List.map_cons, List.map_nil]); first | done | rfl | (simp only [List.length_drop, List.length_take]; rfl)) ?_; (with_reducible refine (redpencilref10_Find.calls kj6 _ _ l0 ((rd_T37 l0 a1).f1.f0) ((rd_T37 l0 a1).f1.f1) t319 _ ?side1 ?side2 A24.out).mono ?_); (case side1 => repeat (first | exact (Kd.C_below HR0.out HB.out) | (with_reducible refine Kd.C_alloc ?_ _) | (with_reducible refine Kd.C_drewN ?_ _) | (with_reducible refine Kd.C_drew ?_))); (case side2 => exact HC0.out); rintro e w29 ⟨rfl, hb⟩; refine ⟨_, rfl, ?_⟩; have n0_ := Aside0.mk (blk_below (g := gb314) (o := .cells #[.int .i64 ((rd_T37 l0 a1).f0.f0), .int .i64 ((rd_T37 l0 a1).f0.f1), .int .i64 ((rd_T37 l0 a1).f1.f0), .int .i64 ((rd_T37 l0 a1).f1.f1), .int .i64 ((rd_T37 l0 a1).f2), .int .i32 ((rd_T37 l0 a1).f3)] 37 (0, 0)) (by (with_reducible repeat (first | refine blk_drewN ?_ _ | refine blk_drew ?_ | refine blk_alloc ?_ _)); exact BK314.out) hb); have n1_ := Aside0.mk (below_step (by repeat (first | (with_reducible first | exact HB.out | apply below_alloc | apply pw_below_drewN | apply below_drew1 | refine below_set ?_ GE314.out) | exact HB.out)) hb); clear BK314; clear HB; have BK314 := n0_; have HB := n1_; clear n0_ n1_; (try clear hb); (try clear hb2); (try clear hk); (try clear hi)))
                  go_ret
                  exact ⟨by first | rfl | (simp [errW_none, errW_some] <;> rfl) | (simp [*, errW_none, errW_some] <;> rfl), by repeat (first | (with_reducible first | exact HB.out | apply below_alloc | apply pw_below_drewN | apply below_drew1 | refine below_set ?_ GE314.out) | exact HB.out)⟩
                · rw [if_neg c25] at H
                  have c25b0 : decide (t319 < 0) = false := decide_eq_false c25
                  clear c25
                  by_cases c30 : 0 ≤ t319
                  · rw [if_pos c30] at H
                    have c30b0 : decide (0 ≤ t319) = true := decide_eq_true c30
                    clear c30
                    by_cases c31 : t319 < (l0.length : Int)
                    · rw [if_pos c31] at H
                      have c31b0 : decide (t319 < (l0.length : Int)) = true := decide_eq_true c31
                      clear c31
                      by_cases c32 : ((rd_T37 l0 a1).f2) ≤ ((rd_T37 l0 t319).f2)
                      · rw [if_pos c32] at H
                        have c32b0 : decide (((rd_T37 l0 a1).f2) ≤ ((rd_T37 l0 t319).f2)) = true := decide_eq_true c32
                        clear c32
                        obtain rfl := Option.some.inj H
                        have hcz33_0 : wc.cell? ⟨gb314, 0, none⟩ = some (.int .i64 ((rd_T37 l0 a1).f0.f0)) := (blk_cell BK314.out 0).trans rfl
                        have hcz33_1 : wc.cell? ⟨gb314, 1, none⟩ = some (.int .i64 ((rd_T37 l0 a1).f0.f1)) := (blk_cell BK314.out 1).trans rfl
                        have hcz33_2 : wc.cell? ⟨gb314, 2, none⟩ = some (.int .i64 ((rd_T37 l0 a1).f1.f0)) := (blk_cell BK314.out 2).trans rfl
                        have hcz33_3 : wc.cell? ⟨gb314, 3, none⟩ = some (.int .i64 ((rd_T37 l0 a1).f1.f1)) := (blk_cell BK314.out 3).trans rfl
                        have hcz33_4 : wc.cell? ⟨gb314, 4, none⟩ = some (.int .i64 ((rd_T37 l0 a1).f2)) := (blk_cell BK314.out 4).trans rfl
                        have hcz33_5 : wc.cell? ⟨gb314, 5, none⟩ = some (.int .i32 ((rd_T37 l0 a1).f3)) := (blk_cell BK314.out 5).trans rfl
                        have hfz33_0 := blk_frozen BK314.out 0
                        have hfz33_1 := blk_frozen BK314.out 1
                        have hfz33_2 := blk_frozen BK314.out 2
                        have hfz33_3 := blk_frozen BK314.out 3
                        have hfz33_4 := blk_frozen BK314.out 4
                        have hfz33_5 := blk_frozen BK314.out 5
                        try go_wp2_with (first | ((with_reducible refine gate_callee (f := 64) rfl ?_); refine goesL_ (some 30) rfl rfl Tryd.func64 (by kernel_rfl) rfl #[.agg #[.int .i64 ((rd_T37 l0 a1).f1.f0), .int .i64 ((rd_T37 l0 a1).f1.f1)]] rfl (by (try simp only [List.map_toArray, List.map_cons, List.map_nil]); first | done | rfl | (simp only [List.length_drop, List.length_take]; rfl)) ?_; (with_reducible refine (redpencilref04_Root.calls ((rd_T37 l0 a1).f1.f0) ((rd_T37 l0 a1).f1.f1) false _ A20.out).mono ?_); rintro e w34 ⟨rfl, hb⟩; refine ⟨_, rfl, ?_⟩; have n0_ := Aside0.mk (blk_below (g := gb314) (o := .cells #[.int .i64 ((rd_T37 l0 a1).f0.f0), .int .i64 ((rd_T37 l0 a1).f0.f1), .int .i64 ((rd_T37 l0 a1).f1.f0), .int .i64 ((rd_T37 l0 a1).f1.f1), .int .i64 ((rd_T37 l0 a1).f2), .int .i32 ((rd_T37 l0 a1).f3)] 37 (0, 0)) (by (with_reducible repeat (first | refine blk_drewN ?_ _ | refine blk_drew ?_ | refine blk_alloc ?_ _)); exact BK314.out) hb); have n1_ := Aside0.mk (below_step (by repeat (first | (with_reducible first | exact HB.out | apply below_alloc | apply pw_below_drewN | apply below_drew1 | refine below_set ?_ GE314.out) | exact HB.out)) hb); clear BK314; clear HB; have BK314 := n0_; have HB := n1_; clear n0_ n1_; (try clear hb); (try clear hb2); (try clear hk); (try clear hi); have hcz35_0 : w34.cell? ⟨gb314, 0, none⟩ = some (.int .i64 ((rd_T37 l0 a1).f0.f0)) := (blk_cell BK314.out 0).trans rfl; have hcz35_1 : w34.cell? ⟨gb314, 1, none⟩ = some (.int .i64 ((rd_T37 l0 a1).f0.f1)) := (blk_cell BK314.out 1).trans rfl; have hcz35_2 : w34.cell? ⟨gb314, 2, none⟩ = some (.int .i64 ((rd_T37 l0 a1).f1.f0)) := (blk_cell BK314.out 2).trans rfl; have hcz35_3 : w34.cell? ⟨gb314, 3, none⟩ = some (.int .i64 ((rd_T37 l0 a1).f1.f1)) := (blk_cell BK314.out 3).trans rfl; have hcz35_4 : w34.cell? ⟨gb314, 4, none⟩ = some (.int .i64 ((rd_T37 l0 a1).f2)) := (blk_cell BK314.out 4).trans rfl; have hcz35_5 : w34.cell? ⟨gb314, 5, none⟩ = some (.int .i32 ((rd_T37 l0 a1).f3)) := (blk_cell BK314.out 5).trans rfl; have hfz35_0 := blk_frozen BK314.out 0; have hfz35_1 := blk_frozen BK314.out 1; have hfz35_2 := blk_frozen BK314.out 2; have hfz35_3 := blk_frozen BK314.out 3; have hfz35_4 := blk_frozen BK314.out 4; have hfz35_5 := blk_frozen BK314.out 5) | ((with_reducible refine gate_callee (f := 65) rfl ?_); refine goesL_ (some 34) rfl rfl Tryd.func65 (by kernel_rfl) rfl #[.slice (some ad313) l0.length c0, .agg #[.int .i64 ((rd_T37 l0 a1).f1.f0), .int .i64 ((rd_T37 l0 a1).f1.f1)]] rfl (by (try simp only [List.map_toArray, List.map_cons, List.map_nil]); first | done | rfl | (simp only [List.length_drop, List.length_take]; rfl)) ?_; (with_reducible refine (redpencilref10_Find.calls kj6 _ _ l0 ((rd_T37 l0 a1).f1.f0) ((rd_T37 l0 a1).f1.f1) t319 _ ?side1 ?side2 A24.out).mono ?_); (case side1 => repeat (first | exact (Kd.C_below HR0.out HB.out) | (with_reducible refine Kd.C_alloc ?_ _) | (with_reducible refine Kd.C_drewN ?_ _) | (with_reducible refine Kd.C_drew ?_))); (case side2 => exact HC0.out); rintro e w36 ⟨rfl, hb⟩; refine ⟨_, rfl, ?_⟩; have n0_ := Aside0.mk (blk_below (g := gb314) (o := .cells #[.int .i64 ((rd_T37 l0 a1).f0.f0), .int .i64 ((rd_T37 l0 a1).f0.f1), .int .i64 ((rd_T37 l0 a1).f1.f0), .int .i64 ((rd_T37 l0 a1).f1.f1), .int .i64 ((rd_T37 l0 a1).f2), .int .i32 ((rd_T37 l0 a1).f3)] 37 (0, 0)) (by (with_reducible repeat (first | refine blk_drewN ?_ _ | refine blk_drew ?_ | refine blk_alloc ?_ _)); exact BK314.out) hb); have n1_ := Aside0.mk (below_step (by repeat (first | (with_reducible first | exact HB.out | apply below_alloc | apply pw_below_drewN | apply below_drew1 | refine below_set ?_ GE314.out) | exact HB.out)) hb); clear BK314; clear HB; have BK314 := n0_; have HB := n1_; clear n0_ n1_; (try clear hb); (try clear hb2); (try clear hk); (try clear hi)))
                        have n0_ := Aside0.mk (blk_drew BK314.out)
                        have n1_ := Aside0.mk (below_drew1 HB.out)
                        clear BK314
                        clear HB
                        have BK314 := n0_
                        have HB := n1_
                        clear n0_ n1_
                        have p320 : 0 ≤ (t319 : Int) := of_decide_eq_true (by first | (with_reducible assumption) | assumption)
                        have q320 : t319 < (l0.length : Int) := of_decide_eq_true (by first | (with_reducible assumption) | assumption)
                        obtain ⟨ad320, e320, hx320_0, hx320_1, hx320_2, hx320_3, hx320_4, hx320_5⟩ := at_T37 HR0.out t319 p320 q320
                        have hw320_5 := hx320_5
                        have hw320_4 := hx320_4
                        have hw320_3 := hx320_3
                        have hw320_2 := hx320_2
                        have hw320_1 := hx320_1
                        have hw320_0 := hx320_0
                        obtain rfl : ad313 = ad320 := (by injection e320)
                        replace hx320_0 := (HB.out.cell (World.block_lt_of_cell? w _ hx320_0)).trans hx320_0
                        replace hx320_1 := (HB.out.cell (World.block_lt_of_cell? w _ hx320_1)).trans hx320_1
                        replace hx320_2 := (HB.out.cell (World.block_lt_of_cell? w _ hx320_2)).trans hx320_2
                        replace hx320_3 := (HB.out.cell (World.block_lt_of_cell? w _ hx320_3)).trans hx320_3
                        replace hx320_4 := (HB.out.cell (World.block_lt_of_cell? w _ hx320_4)).trans hx320_4
                        replace hx320_5 := (HB.out.cell (World.block_lt_of_cell? w _ hx320_5)).trans hx320_5
                        replace p320 := eq_true p320
                        replace q320 := eq_true q320
                        refine start_ (n := 8) (S := fun w' => w'.cell? ⟨gb314, 0, none⟩ = some (.int .i64 ((rd_T37 l0 a1).f0.f0)) ∧ w'.cell? ⟨gb314, 1, none⟩ = some (.int .i64 ((rd_T37 l0 a1).f0.f1)) ∧ w'.cell? ⟨gb314, 2, none⟩ = some (.int .i64 ((rd_T37 l0 a1).f1.f0)) ∧ w'.cell? ⟨gb314, 3, none⟩ = some (.int .i64 ((rd_T37 l0 a1).f1.f1)) ∧ w'.cell? ⟨gb314, 4, none⟩ = some (.int .i64 ((rd_T37 l0 a1).f2)) ∧ w'.cell? ⟨gb314, 5, none⟩ = some (.int .i32 ((rd_T37 l0 a1).f3)) ∧ w'.cell? (ad313.add ((t319).toNat * 6)) = some (.int .i64 ((rd_T37 l0 t319).f0.f0)) ∧ w'.cell? ⟨(ad313.add ((t319).toNat * 6)).block, (ad313.add ((t319).toNat * 6)).off + 1, none⟩ = some (.int .i64 ((rd_T37 l0 t319).f0.f1)) ∧ w'.cell? ⟨(ad313.add ((t319).toNat * 6)).block, (ad313.add ((t319).toNat * 6)).off + 2, none⟩ = some (.int .i64 ((rd_T37 l0 t319).f1.f0)) ∧ w'.cell? ⟨(ad313.add ((t319).toNat * 6)).block, (ad313.add ((t319).toNat * 6)).off + 3, none⟩ = some (.int .i64 ((rd_T37 l0 t319).f1.f1)) ∧ w'.cell? ⟨(ad313.add ((t319).toNat * 6)).block, (ad313.add ((t319).toNat * 6)).off + 4, none⟩ = some (.int .i64 ((rd_T37 l0 t319).f2)) ∧ w'.cell? ⟨(ad313.add ((t319).toNat * 6)).block, (ad313.add ((t319).toNat * 6)).off + 5, none⟩ = some (.int .i32 ((rd_T37 l0 t319).f3))) (ds := []) #[false, false, false, false, false, false, false, false] (by kernel_rfl) rfl rfl ⟨(blk_cell BK314.out 0).trans rfl, (blk_cell BK314.out 1).trans rfl, (blk_cell BK314.out 2).trans rfl, (blk_cell BK314.out 3).trans rfl, (blk_cell BK314.out 4).trans rfl, (blk_cell BK314.out 5).trans rfl, ((HB.out.cell (World.block_lt_of_cell? w _ hw320_0)).trans hw320_0), ((HB.out.cell (World.block_lt_of_cell? w _ hw320_1)).trans hw320_1), ((HB.out.cell (World.block_lt_of_cell? w _ hw320_2)).trans hw320_2), ((HB.out.cell (World.block_lt_of_cell? w _ hw320_3)).trans hw320_3), ((HB.out.cell (World.block_lt_of_cell? w _ hw320_4)).trans hw320_4), ((HB.out.cell (World.block_lt_of_cell? w _ hw320_5)).trans hw320_5)⟩ (fun hHeld => ?_); refine with_tabW redpencilref13_Flaw.tab11 redpencilref13_Flaw.bits11 (fun HT_ HW_ => ?_)
                        generalize w36.drew = w37 at BK314 HB hx320_0 hx320_1 hx320_2 hx320_3 hx320_4 hx320_5 hHeld ⊢
                        refine pure_ (i := 0) (N := some 37) (v := ?_) (a' := ?_) #[true, false, false, false, false, false, false, false] rfl rfl (any_of HT_.out (by kernel_rfl)) (fun _ _ _ h => h) (Or.inl ⟨by rfl, ?_⟩) ?_ ?_
                        rotate_left
                        · intro w'
                          go_simp
                          with_reducible rfl
                        rotate_left
                        · simp only [Act.put, List.setIfInBounds_toArray, List.set_cons_zero, List.set_cons_succ, i64_w, i32_w]
                          rfl
                        refine pure_ (i := 2) (N := some 39) (v := ?_) (a' := ?_) #[true, false, true, false, false, false, false, false] rfl rfl (any_of HT_.out (by kernel_rfl)) (fun _ _ _ h => h) (Or.inl ⟨by rfl, ?_⟩) ?_ ?_
                        rotate_left
                        · intro w'
                          go_simp
                          with_reducible rfl
                        rotate_left
                        · simp only [Act.put, List.setIfInBounds_toArray, List.set_cons_zero, List.set_cons_succ, i64_w, i32_w]
                          rfl
                        refine pure_ (i := 3) (N := some 40) (v := ?_) (a' := ?_) #[true, false, true, true, false, false, false, false] rfl rfl (any_of HT_.out (by kernel_rfl)) (fun _ _ _ h => h) (Or.inl ⟨by rfl, ?_⟩) ?_ ?_
                        rotate_left
                        · intro w'
                          go_simp
                          with_reducible rfl
                        rotate_left
                        · simp only [Act.put, List.setIfInBounds_toArray, List.set_cons_zero, List.set_cons_succ, i64_w, i32_w]
                          rfl
                        refine pure_ (i := 4) (N := some 41) (v := ?_) (a' := ?_) #[true, false, true, true, true, false, false, false] rfl rfl (any_of HT_.out (by kernel_rfl)) (fun _ _ _ h => h) (Or.inl ⟨by rfl, ?_⟩) ?_ ?_
                        rotate_left
                        · intro w'
                          go_simp
                          with_reducible rfl
                        rotate_left
                        · simp only [Act.put, List.setIfInBounds_toArray, List.set_cons_zero, List.set_cons_succ, i64_w, i32_w]
                          rfl
                        refine pure_ (i := 5) (N := some 42) (v := ?_) (a' := ?_) #[true, false, true, true, true, true, false, false] rfl rfl (any_of HT_.out (by kernel_rfl)) (fun _ _ _ h => h) (Or.inl ⟨by rfl, ?_⟩) ?_ ?_
                        rotate_left
                        · intro w'
                          go_simp
                          with_reducible rfl
                        rotate_left
                        · simp only [Act.put, List.setIfInBounds_toArray, List.set_cons_zero, List.set_cons_succ, i64_w, i32_w]
                          rfl
                        refine take_ (i := 1) (N := some 38) (v := ?_) (a' := ?_) #[true, true, true, true, true, true, false, false] rfl rfl (take_ofW HT_.out HW_.out (by kernel_rfl)) (fun _ _ _ h => h) (Or.inl ⟨by rfl, ?_⟩) hHeld ?_ ?_
                        rotate_left
                        · rintro w' ⟨s0, s1, s2, s3, s4, s5, s6, s7, s8, s9, s10, s11⟩
                          go_simp
                          with_reducible rfl
                        rotate_left
                        · simp only [Act.put, List.setIfInBounds_toArray, List.set_cons_zero, List.set_cons_succ, i64_w, i32_w]
                          rfl
                        refine take_ (i := 6) (N := some 43) (v := ?_) (a' := ?_) #[true, true, true, true, true, true, true, false] rfl rfl (take_ofW HT_.out HW_.out (by kernel_rfl)) (fun _ _ _ h => h) (Or.inl ⟨by rfl, ?_⟩) hHeld ?_ ?_
                        rotate_left
                        · rintro w' ⟨s0, s1, s2, s3, s4, s5, s6, s7, s8, s9, s10, s11⟩
                          go_simp
                          with_reducible rfl
                        rotate_left
                        · simp only [Act.put, List.setIfInBounds_toArray, List.set_cons_zero, List.set_cons_succ, i64_w, i32_w]
                          rfl
                        refine pure_ (i := 7) (N := some 44) (v := ?_) (a' := ?_) #[true, true, true, true, true, true, true, true] rfl rfl (any_of HT_.out (by kernel_rfl)) (fun _ _ _ h => h) (Or.inl ⟨by rfl, ?_⟩) ?_ ?_
                        rotate_left
                        · intro w'
                          go_simp
                          with_reducible rfl
                        rotate_left
                        · simp only [Act.put, List.setIfInBounds_toArray, List.set_cons_zero, List.set_cons_succ, i64_w, i32_w]
                          rfl
                        refine done_ (done_of HT_.out (by kernel_rfl)) ?_
                        try go_wp2
                        go_ret
                        exact ⟨by first | rfl | (simp [errW_none, errW_some] <;> rfl) | (simp [*, errW_none, errW_some] <;> rfl), by repeat (first | (with_reducible first | exact HB.out | apply below_alloc | apply pw_below_drewN | apply below_drew1 | refine below_set ?_ GE314.out) | exact HB.out)⟩
                      · rw [if_neg c32] at H
                        have c32b0 : decide (((rd_T37 l0 a1).f2) ≤ ((rd_T37 l0 t319).f2)) = false := decide_eq_false c32
                        clear c32
                        obtain rfl := Option.some.inj H
                        have hcz38_0 : wc.cell? ⟨gb314, 0, none⟩ = some (.int .i64 ((rd_T37 l0 a1).f0.f0)) := (blk_cell BK314.out 0).trans rfl
                        have hcz38_1 : wc.cell? ⟨gb314, 1, none⟩ = some (.int .i64 ((rd_T37 l0 a1).f0.f1)) := (blk_cell BK314.out 1).trans rfl
                        have hcz38_2 : wc.cell? ⟨gb314, 2, none⟩ = some (.int .i64 ((rd_T37 l0 a1).f1.f0)) := (blk_cell BK314.out 2).trans rfl
                        have hcz38_3 : wc.cell? ⟨gb314, 3, none⟩ = some (.int .i64 ((rd_T37 l0 a1).f1.f1)) := (blk_cell BK314.out 3).trans rfl
                        have hcz38_4 : wc.cell? ⟨gb314, 4, none⟩ = some (.int .i64 ((rd_T37 l0 a1).f2)) := (blk_cell BK314.out 4).trans rfl
                        have hcz38_5 : wc.cell? ⟨gb314, 5, none⟩ = some (.int .i32 ((rd_T37 l0 a1).f3)) := (blk_cell BK314.out 5).trans rfl
                        have hfz38_0 := blk_frozen BK314.out 0
                        have hfz38_1 := blk_frozen BK314.out 1
                        have hfz38_2 := blk_frozen BK314.out 2
                        have hfz38_3 := blk_frozen BK314.out 3
                        have hfz38_4 := blk_frozen BK314.out 4
                        have hfz38_5 := blk_frozen BK314.out 5
                        try go_wp2_with (first | ((with_reducible refine gate_callee (f := 64) rfl ?_); refine goesL_ (some 30) rfl rfl Tryd.func64 (by kernel_rfl) rfl #[.agg #[.int .i64 ((rd_T37 l0 a1).f1.f0), .int .i64 ((rd_T37 l0 a1).f1.f1)]] rfl (by (try simp only [List.map_toArray, List.map_cons, List.map_nil]); first | done | rfl | (simp only [List.length_drop, List.length_take]; rfl)) ?_; (with_reducible refine (redpencilref04_Root.calls ((rd_T37 l0 a1).f1.f0) ((rd_T37 l0 a1).f1.f1) false _ A20.out).mono ?_); rintro e w39 ⟨rfl, hb⟩; refine ⟨_, rfl, ?_⟩; have n0_ := Aside0.mk (blk_below (g := gb314) (o := .cells #[.int .i64 ((rd_T37 l0 a1).f0.f0), .int .i64 ((rd_T37 l0 a1).f0.f1), .int .i64 ((rd_T37 l0 a1).f1.f0), .int .i64 ((rd_T37 l0 a1).f1.f1), .int .i64 ((rd_T37 l0 a1).f2), .int .i32 ((rd_T37 l0 a1).f3)] 37 (0, 0)) (by (with_reducible repeat (first | refine blk_drewN ?_ _ | refine blk_drew ?_ | refine blk_alloc ?_ _)); exact BK314.out) hb); have n1_ := Aside0.mk (below_step (by repeat (first | (with_reducible first | exact HB.out | apply below_alloc | apply pw_below_drewN | apply below_drew1 | refine below_set ?_ GE314.out) | exact HB.out)) hb); clear BK314; clear HB; have BK314 := n0_; have HB := n1_; clear n0_ n1_; (try clear hb); (try clear hb2); (try clear hk); (try clear hi); have hcz40_0 : w39.cell? ⟨gb314, 0, none⟩ = some (.int .i64 ((rd_T37 l0 a1).f0.f0)) := (blk_cell BK314.out 0).trans rfl; have hcz40_1 : w39.cell? ⟨gb314, 1, none⟩ = some (.int .i64 ((rd_T37 l0 a1).f0.f1)) := (blk_cell BK314.out 1).trans rfl; have hcz40_2 : w39.cell? ⟨gb314, 2, none⟩ = some (.int .i64 ((rd_T37 l0 a1).f1.f0)) := (blk_cell BK314.out 2).trans rfl; have hcz40_3 : w39.cell? ⟨gb314, 3, none⟩ = some (.int .i64 ((rd_T37 l0 a1).f1.f1)) := (blk_cell BK314.out 3).trans rfl; have hcz40_4 : w39.cell? ⟨gb314, 4, none⟩ = some (.int .i64 ((rd_T37 l0 a1).f2)) := (blk_cell BK314.out 4).trans rfl; have hcz40_5 : w39.cell? ⟨gb314, 5, none⟩ = some (.int .i32 ((rd_T37 l0 a1).f3)) := (blk_cell BK314.out 5).trans rfl; have hfz40_0 := blk_frozen BK314.out 0; have hfz40_1 := blk_frozen BK314.out 1; have hfz40_2 := blk_frozen BK314.out 2; have hfz40_3 := blk_frozen BK314.out 3; have hfz40_4 := blk_frozen BK314.out 4; have hfz40_5 := blk_frozen BK314.out 5) | ((with_reducible refine gate_callee (f := 65) rfl ?_); refine goesL_ (some 34) rfl rfl Tryd.func65 (by kernel_rfl) rfl #[.slice (some ad313) l0.length c0, .agg #[.int .i64 ((rd_T37 l0 a1).f1.f0), .int .i64 ((rd_T37 l0 a1).f1.f1)]] rfl (by (try simp only [List.map_toArray, List.map_cons, List.map_nil]); first | done | rfl | (simp only [List.length_drop, List.length_take]; rfl)) ?_; (with_reducible refine (redpencilref10_Find.calls kj6 _ _ l0 ((rd_T37 l0 a1).f1.f0) ((rd_T37 l0 a1).f1.f1) t319 _ ?side1 ?side2 A24.out).mono ?_); (case side1 => repeat (first | exact (Kd.C_below HR0.out HB.out) | (with_reducible refine Kd.C_alloc ?_ _) | (with_reducible refine Kd.C_drewN ?_ _) | (with_reducible refine Kd.C_drew ?_))); (case side2 => exact HC0.out); rintro e w41 ⟨rfl, hb⟩; refine ⟨_, rfl, ?_⟩; have n0_ := Aside0.mk (blk_below (g := gb314) (o := .cells #[.int .i64 ((rd_T37 l0 a1).f0.f0), .int .i64 ((rd_T37 l0 a1).f0.f1), .int .i64 ((rd_T37 l0 a1).f1.f0), .int .i64 ((rd_T37 l0 a1).f1.f1), .int .i64 ((rd_T37 l0 a1).f2), .int .i32 ((rd_T37 l0 a1).f3)] 37 (0, 0)) (by (with_reducible repeat (first | refine blk_drewN ?_ _ | refine blk_drew ?_ | refine blk_alloc ?_ _)); exact BK314.out) hb); have n1_ := Aside0.mk (below_step (by repeat (first | (with_reducible first | exact HB.out | apply below_alloc | apply pw_below_drewN | apply below_drew1 | refine below_set ?_ GE314.out) | exact HB.out)) hb); clear BK314; clear HB; have BK314 := n0_; have HB := n1_; clear n0_ n1_; (try clear hb); (try clear hb2); (try clear hk); (try clear hi)))
                        have n0_ := Aside0.mk (blk_drew BK314.out)
                        have n1_ := Aside0.mk (below_drew1 HB.out)
                        clear BK314
                        clear HB
                        have BK314 := n0_
                        have HB := n1_
                        clear n0_ n1_
                        have p320 : 0 ≤ (t319 : Int) := of_decide_eq_true (by first | (with_reducible assumption) | assumption)
                        have q320 : t319 < (l0.length : Int) := of_decide_eq_true (by first | (with_reducible assumption) | assumption)
                        obtain ⟨ad320, e320, hx320_0, hx320_1, hx320_2, hx320_3, hx320_4, hx320_5⟩ := at_T37 HR0.out t319 p320 q320
                        have hw320_5 := hx320_5
                        have hw320_4 := hx320_4
                        have hw320_3 := hx320_3
                        have hw320_2 := hx320_2
                        have hw320_1 := hx320_1
                        have hw320_0 := hx320_0
                        obtain rfl : ad313 = ad320 := (by injection e320)
                        replace hx320_0 := (HB.out.cell (World.block_lt_of_cell? w _ hx320_0)).trans hx320_0
                        replace hx320_1 := (HB.out.cell (World.block_lt_of_cell? w _ hx320_1)).trans hx320_1
                        replace hx320_2 := (HB.out.cell (World.block_lt_of_cell? w _ hx320_2)).trans hx320_2
                        replace hx320_3 := (HB.out.cell (World.block_lt_of_cell? w _ hx320_3)).trans hx320_3
                        replace hx320_4 := (HB.out.cell (World.block_lt_of_cell? w _ hx320_4)).trans hx320_4
                        replace hx320_5 := (HB.out.cell (World.block_lt_of_cell? w _ hx320_5)).trans hx320_5
                        replace p320 := eq_true p320
                        replace q320 := eq_true q320
                        refine start_ (n := 8) (S := fun w' => w'.cell? ⟨gb314, 0, none⟩ = some (.int .i64 ((rd_T37 l0 a1).f0.f0)) ∧ w'.cell? ⟨gb314, 1, none⟩ = some (.int .i64 ((rd_T37 l0 a1).f0.f1)) ∧ w'.cell? ⟨gb314, 2, none⟩ = some (.int .i64 ((rd_T37 l0 a1).f1.f0)) ∧ w'.cell? ⟨gb314, 3, none⟩ = some (.int .i64 ((rd_T37 l0 a1).f1.f1)) ∧ w'.cell? ⟨gb314, 4, none⟩ = some (.int .i64 ((rd_T37 l0 a1).f2)) ∧ w'.cell? ⟨gb314, 5, none⟩ = some (.int .i32 ((rd_T37 l0 a1).f3)) ∧ w'.cell? (ad313.add ((t319).toNat * 6)) = some (.int .i64 ((rd_T37 l0 t319).f0.f0)) ∧ w'.cell? ⟨(ad313.add ((t319).toNat * 6)).block, (ad313.add ((t319).toNat * 6)).off + 1, none⟩ = some (.int .i64 ((rd_T37 l0 t319).f0.f1)) ∧ w'.cell? ⟨(ad313.add ((t319).toNat * 6)).block, (ad313.add ((t319).toNat * 6)).off + 2, none⟩ = some (.int .i64 ((rd_T37 l0 t319).f1.f0)) ∧ w'.cell? ⟨(ad313.add ((t319).toNat * 6)).block, (ad313.add ((t319).toNat * 6)).off + 3, none⟩ = some (.int .i64 ((rd_T37 l0 t319).f1.f1)) ∧ w'.cell? ⟨(ad313.add ((t319).toNat * 6)).block, (ad313.add ((t319).toNat * 6)).off + 4, none⟩ = some (.int .i64 ((rd_T37 l0 t319).f2)) ∧ w'.cell? ⟨(ad313.add ((t319).toNat * 6)).block, (ad313.add ((t319).toNat * 6)).off + 5, none⟩ = some (.int .i32 ((rd_T37 l0 t319).f3))) (ds := []) #[false, false, false, false, false, false, false, false] (by kernel_rfl) rfl rfl ⟨(blk_cell BK314.out 0).trans rfl, (blk_cell BK314.out 1).trans rfl, (blk_cell BK314.out 2).trans rfl, (blk_cell BK314.out 3).trans rfl, (blk_cell BK314.out 4).trans rfl, (blk_cell BK314.out 5).trans rfl, ((HB.out.cell (World.block_lt_of_cell? w _ hw320_0)).trans hw320_0), ((HB.out.cell (World.block_lt_of_cell? w _ hw320_1)).trans hw320_1), ((HB.out.cell (World.block_lt_of_cell? w _ hw320_2)).trans hw320_2), ((HB.out.cell (World.block_lt_of_cell? w _ hw320_3)).trans hw320_3), ((HB.out.cell (World.block_lt_of_cell? w _ hw320_4)).trans hw320_4), ((HB.out.cell (World.block_lt_of_cell? w _ hw320_5)).trans hw320_5)⟩ (fun hHeld => ?_); refine with_tabW redpencilref13_Flaw.tab11 redpencilref13_Flaw.bits11 (fun HT_ HW_ => ?_)
                        generalize w41.drew = w42 at BK314 HB hx320_0 hx320_1 hx320_2 hx320_3 hx320_4 hx320_5 hHeld ⊢
                        refine pure_ (i := 0) (N := some 37) (v := ?_) (a' := ?_) #[true, false, false, false, false, false, false, false] rfl rfl (any_of HT_.out (by kernel_rfl)) (fun _ _ _ h => h) (Or.inl ⟨by rfl, ?_⟩) ?_ ?_
                        rotate_left
                        · intro w'
                          go_simp
                          with_reducible rfl
                        rotate_left
                        · simp only [Act.put, List.setIfInBounds_toArray, List.set_cons_zero, List.set_cons_succ, i64_w, i32_w]
                          rfl
                        refine pure_ (i := 2) (N := some 39) (v := ?_) (a' := ?_) #[true, false, true, false, false, false, false, false] rfl rfl (any_of HT_.out (by kernel_rfl)) (fun _ _ _ h => h) (Or.inl ⟨by rfl, ?_⟩) ?_ ?_
                        rotate_left
                        · intro w'
                          go_simp
                          with_reducible rfl
                        rotate_left
                        · simp only [Act.put, List.setIfInBounds_toArray, List.set_cons_zero, List.set_cons_succ, i64_w, i32_w]
                          rfl
                        refine pure_ (i := 3) (N := some 40) (v := ?_) (a' := ?_) #[true, false, true, true, false, false, false, false] rfl rfl (any_of HT_.out (by kernel_rfl)) (fun _ _ _ h => h) (Or.inl ⟨by rfl, ?_⟩) ?_ ?_
                        rotate_left
                        · intro w'
                          go_simp
                          with_reducible rfl
                        rotate_left
                        · simp only [Act.put, List.setIfInBounds_toArray, List.set_cons_zero, List.set_cons_succ, i64_w, i32_w]
                          rfl
                        refine pure_ (i := 4) (N := some 41) (v := ?_) (a' := ?_) #[true, false, true, true, true, false, false, false] rfl rfl (any_of HT_.out (by kernel_rfl)) (fun _ _ _ h => h) (Or.inl ⟨by rfl, ?_⟩) ?_ ?_
                        rotate_left
                        · intro w'
                          go_simp
                          with_reducible rfl
                        rotate_left
                        · simp only [Act.put, List.setIfInBounds_toArray, List.set_cons_zero, List.set_cons_succ, i64_w, i32_w]
                          rfl
                        refine pure_ (i := 5) (N := some 42) (v := ?_) (a' := ?_) #[true, false, true, true, true, true, false, false] rfl rfl (any_of HT_.out (by kernel_rfl)) (fun _ _ _ h => h) (Or.inl ⟨by rfl, ?_⟩) ?_ ?_
                        rotate_left
                        · intro w'
                          go_simp
                          with_reducible rfl
                        rotate_left
                        · simp only [Act.put, List.setIfInBounds_toArray, List.set_cons_zero, List.set_cons_succ, i64_w, i32_w]
                          rfl
                        refine take_ (i := 1) (N := some 38) (v := ?_) (a' := ?_) #[true, true, true, true, true, true, false, false] rfl rfl (take_ofW HT_.out HW_.out (by kernel_rfl)) (fun _ _ _ h => h) (Or.inl ⟨by rfl, ?_⟩) hHeld ?_ ?_
                        rotate_left
                        · rintro w' ⟨s0, s1, s2, s3, s4, s5, s6, s7, s8, s9, s10, s11⟩
                          go_simp
                          with_reducible rfl
                        rotate_left
                        · simp only [Act.put, List.setIfInBounds_toArray, List.set_cons_zero, List.set_cons_succ, i64_w, i32_w]
                          rfl
                        refine take_ (i := 6) (N := some 43) (v := ?_) (a' := ?_) #[true, true, true, true, true, true, true, false] rfl rfl (take_ofW HT_.out HW_.out (by kernel_rfl)) (fun _ _ _ h => h) (Or.inl ⟨by rfl, ?_⟩) hHeld ?_ ?_
                        rotate_left
                        · rintro w' ⟨s0, s1, s2, s3, s4, s5, s6, s7, s8, s9, s10, s11⟩
                          go_simp
                          with_reducible rfl
                        rotate_left
                        · simp only [Act.put, List.setIfInBounds_toArray, List.set_cons_zero, List.set_cons_succ, i64_w, i32_w]
                          rfl
                        refine pure_ (i := 7) (N := some 44) (v := ?_) (a' := ?_) #[true, true, true, true, true, true, true, true] rfl rfl (any_of HT_.out (by kernel_rfl)) (fun _ _ _ h => h) (Or.inl ⟨by rfl, ?_⟩) ?_ ?_
                        rotate_left
                        · intro w'
                          go_simp
                          with_reducible rfl
                        rotate_left
                        · simp only [Act.put, List.setIfInBounds_toArray, List.set_cons_zero, List.set_cons_succ, i64_w, i32_w]
                          rfl
                        refine done_ (done_of HT_.out (by kernel_rfl)) ?_
                        try go_wp2
                        go_ret
                        exact ⟨by first | rfl | (simp [errW_none, errW_some] <;> rfl) | (simp [*, errW_none, errW_some] <;> rfl), by repeat (first | (with_reducible first | exact HB.out | apply below_alloc | apply pw_below_drewN | apply below_drew1 | refine below_set ?_ GE314.out) | exact HB.out)⟩
                    · rw [if_neg c31] at H
                      exact absurd H (by simp)
                  · rw [if_neg c30] at H
                    exact absurd H (by simp)
      · replace c6 := Bool.eq_false_iff.mpr c6
        subst c6
        have H1 : (some 1) = some r := by rw [if_neg (show ¬ (false = true) by decide)] at H; exact H
        clear H
        have H := H1
        clear H1
        obtain rfl := Option.some.inj H
        have p313 : 0 ≤ (a1 : Int) := of_decide_eq_true (by first | (with_reducible assumption) | assumption)
        have q313 : a1 < (l0.length : Int) := of_decide_eq_true (by first | (with_reducible assumption) | assumption)
        obtain ⟨ad313, e313, hx313_0, hx313_1, hx313_2, hx313_3, hx313_4, hx313_5⟩ := at_T37 HR0.out a1 p313 q313
        cases e313
        replace p313 := eq_true p313
        replace q313 := eq_true q313
        go_enter Tryd.func37, Tryd.ntmps37
        go_wp2_with (first | ((with_reducible refine gate_dst (N := 5) rfl ?_); refine box_event ?hg (N := 5) ?hd (cs := #[.int .i64 0, .int .i64 0, .int .i64 0, .int .i64 0, .int .i64 0, .int .i32 0]) (t := 37) ?hr ?_; (case hd => rfl); (case hg => rfl); (case hr => first | (go_simp; done) | (go_simp; rfl)); intro gb314 hg w43 hbox hb; have n0_ := Aside0.mk (below_step (by repeat (first | (with_reducible first | exact HB.out | apply below_alloc | apply pw_below_drewN | apply below_drew1) | exact HB.out)) hb); have n1_ := Aside0.mk (hbox); have n2_ := Aside0.mk ((by rw [hg]; exact (below_size (by repeat (first | (with_reducible first | exact HB.out | apply below_alloc | apply pw_below_drewN | apply below_drew1) | exact HB.out))) : w.heap.size ≤ gb314)); have n3_ := Aside0.mk ((by rw [hg]; exact (below_size (by repeat (first | (with_reducible first | exact HB.out | apply below_alloc | apply pw_below_drewN | apply below_drew1) | exact HB.out))) : w.heap.size ≤ gb314)); clear HB; have HB := n0_; have BK314 := n1_; have GW314 := n2_; have GE314 := n3_; clear n0_ n1_ n2_ n3_; clear hb hbox hg; have hcz44_0 : w43.cell? ⟨gb314, 0, none⟩ = some (.int .i64 0) := (blk_cell BK314.out 0).trans rfl; have hcz44_1 : w43.cell? ⟨gb314, 1, none⟩ = some (.int .i64 0) := (blk_cell BK314.out 1).trans rfl; have hcz44_2 : w43.cell? ⟨gb314, 2, none⟩ = some (.int .i64 0) := (blk_cell BK314.out 2).trans rfl; have hcz44_3 : w43.cell? ⟨gb314, 3, none⟩ = some (.int .i64 0) := (blk_cell BK314.out 3).trans rfl; have hcz44_4 : w43.cell? ⟨gb314, 4, none⟩ = some (.int .i64 0) := (blk_cell BK314.out 4).trans rfl; have hcz44_5 : w43.cell? ⟨gb314, 5, none⟩ = some (.int .i32 0) := (blk_cell BK314.out 5).trans rfl; have hfz44_0 := blk_frozen BK314.out 0; have hfz44_1 := blk_frozen BK314.out 1; have hfz44_2 := blk_frozen BK314.out 2; have hfz44_3 := blk_frozen BK314.out 3; have hfz44_4 := blk_frozen BK314.out 4; have hfz44_5 := blk_frozen BK314.out 5) | ((with_reducible refine gate_callee (f := 38) rfl ?_); refine goesL_ (some 12) rfl rfl Tryd.func38 (by kernel_rfl) rfl #[.agg #[.int .i64 ((rd_T37 l0 a1).f0.f0), .int .i64 ((rd_T37 l0 a1).f0.f1), .int .i64 ((rd_T37 l0 a1).f1.f0), .int .i64 ((rd_T37 l0 a1).f1.f1), .int .i64 ((rd_T37 l0 a1).f2), .int .i32 ((rd_T37 l0 a1).f3)]] rfl (by (try simp only [List.map_toArray, List.map_cons, List.map_nil]); first | done | rfl | (simp only [List.length_drop, List.length_take]; rfl)) ?_; (with_reducible refine (redpencilref09_Valid.calls ((rd_T37 l0 a1).f0.f0) ((rd_T37 l0 a1).f0.f1) ((rd_T37 l0 a1).f1.f0) ((rd_T37 l0 a1).f1.f1) ((rd_T37 l0 a1).f2) ((rd_T37 l0 a1).f3) false _ A5.out).mono ?_); rintro e w45 ⟨rfl, hb⟩; refine ⟨_, rfl, ?_⟩; have n0_ := Aside0.mk (blk_below (g := gb314) (o := .cells #[.int .i64 ((rd_T37 l0 a1).f0.f0), .int .i64 ((rd_T37 l0 a1).f0.f1), .int .i64 ((rd_T37 l0 a1).f1.f0), .int .i64 ((rd_T37 l0 a1).f1.f1), .int .i64 ((rd_T37 l0 a1).f2), .int .i32 ((rd_T37 l0 a1).f3)] 37 (0, 0)) (by (with_reducible repeat (first | refine blk_drewN ?_ _ | refine blk_drew ?_ | refine blk_alloc ?_ _)); refine blk_put (cs := #[.int .i64 ((rd_T37 l0 a1).f0.f0), .int .i64 ((rd_T37 l0 a1).f0.f1), .int .i64 ((rd_T37 l0 a1).f1.f0), .int .i64 ((rd_T37 l0 a1).f1.f1), .int .i64 ((rd_T37 l0 a1).f2), .int .i32 0]) ?_ 5 _ rfl; (with_reducible repeat (first | refine blk_drewN ?_ _ | refine blk_drew ?_ | refine blk_alloc ?_ _)); refine blk_put (cs := #[.int .i64 ((rd_T37 l0 a1).f0.f0), .int .i64 ((rd_T37 l0 a1).f0.f1), .int .i64 ((rd_T37 l0 a1).f1.f0), .int .i64 ((rd_T37 l0 a1).f1.f1), .int .i64 0, .int .i32 0]) ?_ 4 _ rfl; (with_reducible repeat (first | refine blk_drewN ?_ _ | refine blk_drew ?_ | refine blk_alloc ?_ _)); refine blk_put (cs := #[.int .i64 ((rd_T37 l0 a1).f0.f0), .int .i64 ((rd_T37 l0 a1).f0.f1), .int .i64 ((rd_T37 l0 a1).f1.f0), .int .i64 0, .int .i64 0, .int .i32 0]) ?_ 3 _ rfl; (with_reducible repeat (first | refine blk_drewN ?_ _ | refine blk_drew ?_ | refine blk_alloc ?_ _)); refine blk_put (cs := #[.int .i64 ((rd_T37 l0 a1).f0.f0), .int .i64 ((rd_T37 l0 a1).f0.f1), .int .i64 0, .int .i64 0, .int .i64 0, .int .i32 0]) ?_ 2 _ rfl; (with_reducible repeat (first | refine blk_drewN ?_ _ | refine blk_drew ?_ | refine blk_alloc ?_ _)); refine blk_put (cs := #[.int .i64 ((rd_T37 l0 a1).f0.f0), .int .i64 0, .int .i64 0, .int .i64 0, .int .i64 0, .int .i32 0]) ?_ 1 _ rfl; (with_reducible repeat (first | refine blk_drewN ?_ _ | refine blk_drew ?_ | refine blk_alloc ?_ _)); refine blk_put (cs := #[.int .i64 0, .int .i64 0, .int .i64 0, .int .i64 0, .int .i64 0, .int .i32 0]) ?_ 0 _ rfl; (with_reducible repeat (first | refine blk_drewN ?_ _ | refine blk_drew ?_ | refine blk_alloc ?_ _)); exact BK314.out) hb); have n1_ := Aside0.mk (below_step (by repeat (first | (with_reducible first | exact HB.out | apply below_alloc | apply pw_below_drewN | apply below_drew1 | refine below_set ?_ GE314.out) | exact HB.out)) hb); clear BK314; clear HB; have BK314 := n0_; have HB := n1_; clear n0_ n1_; (try clear hb); (try clear hb2); (try clear hk); (try clear hi)))
        go_ret
        exact ⟨by first | rfl | (simp [errW_none, errW_some] <;> rfl) | (simp [*, errW_none, errW_some] <;> rfl), by repeat (first | (with_reducible first | exact HB.out | apply below_alloc | apply pw_below_drewN | apply below_drew1 | refine below_set ?_ GE314.out) | exact HB.out)⟩
    · rw [if_neg c4] at H
      exact absurd H (by simp)
  · rw [if_neg c3] at H
    exact absurd H (by simp)

/-! ### redpencilref13_Faults: function 10 -/
def redpencilref13_Faults.l0 : Nat → List (S37) → List (S44) → Int → Option ((List (S44)))
  | 0, _, _, _ => none
  | k + 1, x0, x3, x4 => if x4 < (x0.length : Int) then ((redpencilref13_Flaw.f k x0 x4).bind fun t321 => (if t321 = 0 then (redpencilref13_Faults.l0 k x0 x3 (wrap64 (x4 + 1))) else (if x3.length < 8796093022208 then (redpencilref13_Faults.l0 k x0 (x3 ++ [(⟨x4, t321⟩ : S44)]) (wrap64 (x4 + 1))) else (none)))) else (some x3)
def redpencilref13_Faults.f (k : Nat) (l0 : List (S37)) : Option ((List (S44))) := redpencilref13_Faults.l0 k l0 ([] : List (S44)) 0
theorem redpencilref13_Faults.mono_l : ∀ k, (∀ y0 y1 y2, LeO (redpencilref13_Faults.l0 k y0 y1 y2) (redpencilref13_Faults.l0 (k + 1) y0 y1 y2))
  | 0 => fun _ _ _ r h => by simp [redpencilref13_Faults.l0] at h
  | k + 1 => by
    have ih0 := redpencilref13_Faults.mono_l k
    · intro y0 y1 y2
      unfold redpencilref13_Faults.l0
      repeat' first
      | (with_reducible exact ih0 _ _ _)
      | (with_reducible exact redpencilref13_Flaw.mono _ _ _)
      | (with_reducible exact LeO.refl _)
      | (with_reducible exact LeO.none _)
      | (with_reducible refine LeO.ite ?_ ?_)
      | (with_reducible refine LeO.bind ?_ (fun _ => ?_))
      | exact ih0 _ _ _
      | exact redpencilref13_Flaw.mono _ _ _
      | exact LeO.none _
      | refine LeO.ite ?_ ?_
      | refine LeO.bind ?_ (fun _ => ?_)
theorem redpencilref13_Faults.mono : ∀ a0 k, LeO (redpencilref13_Faults.f k a0) (redpencilref13_Faults.f (k + 1) a0) := by
  intro a0 k
  have ih0 := redpencilref13_Faults.mono_l k
  unfold redpencilref13_Faults.f
  repeat' first
      | (with_reducible exact ih0 _ _ _)
      | (with_reducible exact redpencilref13_Flaw.mono _ _ _)
      | (with_reducible exact LeO.refl _)
      | (with_reducible exact LeO.none _)
      | (with_reducible refine LeO.ite ?_ ?_)
      | (with_reducible refine LeO.bind ?_ (fun _ => ?_))
      | exact ih0 _ _ _
      | exact redpencilref13_Flaw.mono _ _ _
      | exact LeO.none _
      | refine LeO.ite ?_ ?_
      | refine LeO.bind ?_ (fun _ => ?_)
set_option maxHeartbeats 8000000 in
set_option maxRecDepth 100000 in
theorem redpencilref13_Faults.calls (k : Nat) (A0 : Option Addr) (c0 : Nat) (l0 : List (S37)) (r : List (S44)) (w : World) (hr0 : Kd.C k37 w A0 l0.length l0) (hc0 : l0.length ≤ c0) (h : redpencilref13_Faults.f k l0 = some r) :
    Calls Tryd.prog 10 #[.slice A0 l0.length c0] w fun e w' => ∃ v0_ : Value, e = .returned (v0_) ∧ Kd.R k44 44 w' w.heap.size (fun _ => True) v0_ r ∧ Below w.heap.size w w' := by
  have hu44 := Tryd.underlying44
  have HR0 := Aside0.mk hr0
  have HC0 := Aside0.mk hc0
  clear hr0 hc0
  have HB := Aside0.mk (Below.refl w.heap.size w)
  have H : (redpencilref13_Faults.l0 k l0 ([] : List (S44)) 0) = some r := h
  clear h
  have H' := Aside0.mk H
  clear H
  go_enter Tryd.func10, Tryd.ntmps10
  go_wp2
  go_loopg [3, 4] k (fun kq v3 v4 w' => ∃ (x3_1 : List (S44)) (x4_1 : Int), v4 = .int .i64 x4_1 ∧ Aside0 (redpencilref13_Faults.l0 kq l0 x3_1 x4_1 = some r) ∧ Aside0 (kq ≤ k) ∧ Aside0 (Kd.R k44 44 w' w.heap.size (fun _ => True) v3 x3_1) ∧ Aside0 (Below w.heap.size w w'))
  case atStart => exact ⟨(([] : List (S44))), (0), (by first | rfl | (simp; done) | (simp [*]; done)), H', ⟨Nat.le_refl _⟩, ⟨by first | exact Kd.R_nil _ _ _ _ _ | exact Kd.N_nil _ _ _ _ _ | exact Kd.V_nil _ _ _ _ _ | exact Kd.Q_nil _ _ _ _ _ | exact Kd.S_nil _ _ _ _ _⟩, ⟨by repeat (first | (with_reducible first | exact HB.out | apply below_alloc | apply pw_below_drewN | apply below_drew1) | exact HB.out)⟩⟩
  case round =>
    clear H'
    try clear c1
    obtain ⟨x3_1, x4_1, rfl, HA, HK1, HO_3, HB⟩ := hrel
    cases gk with
    | zero => exact absurd HA.out (by simp [redpencilref13_Faults.l0])
    | succ k1 =>
      have H := HA.out
      clear HA
      simp only [redpencilref13_Faults.l0] at H
      by_cases c2 : x4_1 < (l0.length : Int)
      · rw [if_pos c2] at H
        have c2b0 : decide (x4_1 < (l0.length : Int)) = true := decide_eq_true c2
        clear c2
        replace H := Option.bind_eq_some_iff.mp H
        obtain ⟨t321, A30, H⟩ := H
        replace H : (if t321 = 0 then (redpencilref13_Faults.l0 k1 l0 x3_1 (wrap64 (x4_1 + 1))) else (if x3_1.length < 8796093022208 then (redpencilref13_Faults.l0 k1 l0 (x3_1 ++ [(⟨x4_1, t321⟩ : S44)]) (wrap64 (x4_1 + 1))) else (none))) = some r := H
        have A3 := Aside0.mk A30
        clear A30
        by_cases c4 : t321 = 0
        · rw [if_pos c4] at H
          have c4b0 : (t321 == 0) = true := beq_iff_eq.mpr c4
          have c4b1 : (t321 != 0) = false := bne_eq_false_iff_eq.mpr c4
          clear c4
          have H' := Aside0.mk H
          clear H
          go_wp2_with (first | ((with_reducible refine gate_callee (f := 37) rfl ?_); refine goesL_ (some 14) rfl rfl Tryd.func37 (by kernel_rfl) rfl #[.slice A0 l0.length c0, .int .i64 x4_1] rfl (by (try simp only [List.map_toArray, List.map_cons, List.map_nil]); first | done | rfl | (simp only [List.length_drop, List.length_take]; rfl)) ?_; (with_reducible refine (redpencilref13_Flaw.calls k1 _ _ l0 x4_1 t321 _ ?side1 ?side2 A3.out).mono ?_); (case side1 => repeat (first | exact (Kd.C_below HR0.out HB.out) | (with_reducible refine Kd.C_alloc ?_ _) | (with_reducible refine Kd.C_drewN ?_ _) | (with_reducible refine Kd.C_drew ?_))); (case side2 => exact HC0.out); rintro e w5 ⟨rfl, hb⟩; refine ⟨_, rfl, ?_⟩; have n0_ := Aside0.mk (Kd.R_below (by (with_reducible repeat (first | apply Kd.R_alloc | apply Kd.R_drewN | apply Kd.R_drew)); exact HO_3.out) hb); have n1_ := Aside0.mk (below_step (by repeat (first | (with_reducible first | exact HB.out | apply below_alloc | apply pw_below_drewN | apply below_drew1) | exact HB.out)) hb); clear HO_3; clear HB; have HO_3 := n0_; have HB := n1_; clear n0_ n1_; (try clear hb); (try clear hb2); (try clear hk); (try clear hi)))
          go_roundg k1
          case measure => have := HK1.out; omega
          case rel => exact ⟨(x3_1), (wrap64 (x4_1 + 1)), (by first | rfl | (simp; done) | (simp [*]; done)), H', ⟨by have := HK1.out; omega⟩, ⟨by (with_reducible repeat (first | apply Kd.R_alloc | apply Kd.R_drewN | apply Kd.R_drew)); exact HO_3.out⟩, ⟨by repeat (first | (with_reducible first | exact HB.out | apply below_alloc | apply pw_below_drewN | apply below_drew1) | exact HB.out)⟩⟩
        · rw [if_neg c4] at H
          have c4b0 : (t321 == 0) = false := beq_eq_false_iff_ne.mpr c4
          have c4b1 : (t321 != 0) = true := bne_iff_ne.mpr c4
          by_cases c6 : x3_1.length < 8796093022208
          · rw [if_pos c6] at H
            have LMc6 := Aside0.mk c6
            clear c6
            obtain ⟨y322, hy322⟩ : ∃ y_ : List (S44), y_ = (x3_1 ++ [(⟨x4_1, t321⟩ : S44)]) := ⟨_, rfl⟩
            replace H : (redpencilref13_Faults.l0 k1 l0 y322 (wrap64 (x4_1 + 1))) = some r := by first | (rw [hy322]; with_reducible exact H) | (have H2_ := (Option.bind_some _ _).symm.trans H; rw [hy322]; with_reducible exact H2_) | (have H2_ := (Option.bind_some _ _).symm.trans H; with_reducible exact H2_) | with_reducible exact H | (rw [hy322]; exact H) | exact H
            have Ny322 := Aside0.mk hy322
            clear hy322
            have H' := Aside0.mk H
            clear H
            go_wp2_with (first | ((with_reducible refine gate_callee (f := 37) rfl ?_); refine goesL_ (some 14) rfl rfl Tryd.func37 (by kernel_rfl) rfl #[.slice A0 l0.length c0, .int .i64 x4_1] rfl (by (try simp only [List.map_toArray, List.map_cons, List.map_nil]); first | done | rfl | (simp only [List.length_drop, List.length_take]; rfl)) ?_; (with_reducible refine (redpencilref13_Flaw.calls k1 _ _ l0 x4_1 t321 _ ?side1 ?side2 A3.out).mono ?_); (case side1 => repeat (first | exact (Kd.C_below HR0.out HB.out) | (with_reducible refine Kd.C_alloc ?_ _) | (with_reducible refine Kd.C_drewN ?_ _) | (with_reducible refine Kd.C_drew ?_))); (case side2 => exact HC0.out); rintro e w7 ⟨rfl, hb⟩; refine ⟨_, rfl, ?_⟩; have n0_ := Aside0.mk (Kd.R_below (by (with_reducible repeat (first | apply Kd.R_alloc | apply Kd.R_drewN | apply Kd.R_drew)); exact HO_3.out) hb); have n1_ := Aside0.mk (below_step (by repeat (first | (with_reducible first | exact HB.out | apply below_alloc | apply pw_below_drewN | apply below_drew1) | exact HB.out)) hb); clear HO_3; clear HB; have HO_3 := n0_; have HB := n1_; clear n0_ n1_; (try clear hb); (try clear hb2); (try clear hk); (try clear hi)) | ((with_reducible refine gate_builtin (b := .append) (xs := #[.tmp 17, .tmp 21]) rfl ?_); at_builtin; refine Kd.R_append k44 (w0 := w) w.heap.size rfl (.tmp 17) (.tmp 21) 25 44 (.agg #[(.int .i64 0), (.int .i64 0)]) 16 rfl Tryd.underlying25 info44 rfl (by decide) (by omega) u3 x3_1 (⟨x4_1, t321⟩ : S44) [.int .i64 x4_1, .int .i64 t321] (fun _ => True) (fun _ => False) rfl rfl ?aP (fun _ hk => hk.elim) ?aF ?aO ?aB ?aS ?aL ?_; (case aP => exact k44_mkM _ _ _ (⟨x4_1, t321⟩ : S44)); (case aB => exact (by repeat (first | (with_reducible first | exact HB.out | apply below_alloc | apply pw_below_drewN | apply below_drew1) | exact HB.out))); (case aF => exact (fun _ _ => trivial)); (case aO => exact (by (with_reducible repeat (first | apply Kd.R_alloc | apply Kd.R_drewN | apply Kd.R_drew)); exact HO_3.out)); (case aS => exact (below_size (by repeat (first | (with_reducible first | exact HB.out | apply below_alloc | apply pw_below_drewN | apply below_drew1) | exact HB.out)))); (case aL => have := LMc6.out; omega); intro v323 w8 ho hb hg hat; rw [← Ny322.out] at ho; have n0_ := Aside0.mk (hb); have n1_ := Aside0.mk (ho); clear HB; clear HO_3; have HB := n0_; have HO324 := n1_; clear n0_ n1_; clear ho hb hg hat))
            go_roundg k1
            case measure => have := HK1.out; omega
            case rel => exact ⟨(y322), (wrap64 (x4_1 + 1)), (by first | rfl | (simp; done) | (simp [*]; done)), H', ⟨by have := HK1.out; omega⟩, ⟨by (with_reducible repeat (first | apply Kd.R_alloc | apply Kd.R_drewN | apply Kd.R_drew)); exact HO324.out⟩, ⟨by repeat (first | (with_reducible first | exact HB.out | apply below_alloc | apply pw_below_drewN | apply below_drew1) | exact HB.out)⟩⟩
          · rw [if_neg c6] at H
            exact absurd H (by simp)
      · rw [if_neg c2] at H
        have c2b0 : decide (x4_1 < (l0.length : Int)) = false := decide_eq_false c2
        clear c2
        obtain rfl := Option.some.inj H
        go_wp2
        go_ret
        exact ⟨_, by first | rfl | (simp [errW_none, errW_some] <;> rfl) | (simp [*, errW_none, errW_some] <;> rfl), by (with_reducible repeat (first | apply Kd.R_alloc | apply Kd.R_drewN | apply Kd.R_drew)); exact HO_3.out, by repeat (first | (with_reducible first | exact HB.out | apply below_alloc | apply pw_below_drewN | apply below_drew1) | exact HB.out)⟩

-- NOT PRINTED: function 3 (redpencillaw13_FormFaults)

end Go.Proofs.YtjlpaagnajmogaaDoor.PForm
