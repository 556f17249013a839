/-
  The law IndexFinds: what index.At, index.Of and index.Before answer for any nodes, any index and any dot. Part 10 of 11.
-/
import Derived.Test.YtjlpaagnajmogaaGreatFI
section
namespace Go.Proofs.YtjlpaagnajmogaaGreat.PWalk
open Go.RowKit Go.Proofs.YtjlpaagnajmogaaGreatW.PrintWords Go.Proofs.YtjlpaagnajmogaaGreatW.PrintLast Go.Proofs.YtjlpaagnajmogaaGreatW.PrintMore
set_option linter.unusedVariables false
set_option linter.unusedSimpArgs false
def redpencilref12_Of.f (k : Nat) (l0 : List (S35)) (a1_0 : Int) (a1_1 : Int) : Option (Int) := (redpencilref12_Visible.f k l0).bind fun t482 => ((redpencilref10_Find.f k t482 a1_0 a1_1).bind fun t485 => (some t485))
set_option maxHeartbeats 8000000 in
set_option maxRecDepth 100000 in
theorem redpencilref12_Of.calls (k : Nat) (A0 : Option Addr) (c0 : Nat) (l0 : List (S35)) (a1_0 : Int) (a1_1 : Int) (r : Int) (w : World) (hr0 : Kd.C k35 w A0 l0.length l0) (hc0 : l0.length ≤ c0) (h : redpencilref12_Of.f k l0 a1_0 a1_1 = some r) :
  Calls Tryz.prog 44 #[.slice A0 l0.length c0, .agg #[.int .i64 a1_0, .int .i64 a1_1]] w fun e w' => e = .returned (.int .i64 r) ∧ Below w.heap.size w w' := by
 have hu24 := Tryz.underlying24
 have HR0 := Aside0.mk hr0
 have HC0 := Aside0.mk hc0
 clear hr0 hc0
 have HB := Aside0.mk (Below.refl w.heap.size w)
 have H : ((redpencilref12_Visible.f k l0).bind fun t482 => ((redpencilref10_Find.f k t482 a1_0 a1_1).bind fun t485 => (some t485))) = some r := h
 clear h
 replace H := Option.bind_eq_some_iff.mp H
 obtain ⟨t482, A30, H⟩ := H
 replace H : ((redpencilref10_Find.f k t482 a1_0 a1_1).bind fun t485 => (some t485)) = some r := H
 have A3 := Aside0.mk A30
 clear A30
 replace H := Option.bind_eq_some_iff.mp H
 obtain ⟨t485, A40, H⟩ := H
 replace H : (some t485) = some r := H
 have A4 := Aside0.mk A40
 clear A40
 obtain rfl := Option.some.inj H
 go_enter Tryz.func44, Tryz.ntmps44
 try go_wp2_with (first | ((with_reducible refine gate_dst (N := 3) rfl ?_); refine box_event ?hg (N := 3) ?hd (cs := #[.int .i64 a1_0, .int .i64 a1_1]) (t := 24) ?hr ?_; (case hd => rfl); (case hg => rfl); (case hr => first | (go_simp; done) | (go_simp; rfl)); intro gb481 hg w5 hbox hb; have n0_ := Aside0.mk (below_step (by repeat (first | (with_reducible first | exact HB.out | apply below_alloc | apply pw_below_drewN | apply below_drew1) | exact HB.out)) hb); have n1_ := Aside0.mk (hbox); have n2_ := Aside0.mk ((by rw [hg]; exact (below_size (by repeat (first | (with_reducible first | exact HB.out | apply below_alloc | apply pw_below_drewN | apply below_drew1) | exact HB.out))) : w.heap.size ≤ gb481)); have n3_ := Aside0.mk ((by rw [hg]; exact (below_size (by repeat (first | (with_reducible first | exact HB.out | apply below_alloc | apply pw_below_drewN | apply below_drew1) | exact HB.out))) : w.heap.size ≤ gb481)); clear HB; have HB := n0_; have BK481 := n1_; have GW481 := n2_; have GE481 := n3_; clear n0_ n1_ n2_ n3_; clear hb hbox hg))
 have n0_ := Aside0.mk (blk_drew BK481.out)
 have n1_ := Aside0.mk (below_drew1 HB.out)
 clear BK481
 clear HB
 have BK481 := n0_
 have HB := n1_
 clear n0_ n1_
 refine start_ (n := 5) (S := fun w' => w'.cell? ⟨gb481, 0, none⟩ = some (.int .i64 a1_0) ∧ w'.cell? ⟨gb481, 1, none⟩ = some (.int .i64 a1_1)) (ds := []) #[false, false, false, false, false] (by kernel_rfl) rfl rfl ⟨(blk_cell BK481.out 0).trans rfl, (blk_cell BK481.out 1).trans rfl⟩ (fun hHeld => ?_)
 generalize w5.drew = w6 at BK481 HB hHeld ⊢
 refine pure_ (i := 0) (N := some 5) (v := ?_) (a' := ?_) #[true, false, false, false, false] rfl rfl (by kernel_rfl) (fun _ _ _ h => h) (Or.inl ⟨by rfl, ?_⟩) ?_ ?_
 rotate_left
 ·
  intro w'
  go_simp
  with_reducible rfl
 rotate_left
 ·
  simp only [Act.put, List.setIfInBounds_toArray, List.set_cons_zero, List.set_cons_succ, i64_w, i32_w]
  rfl
 refine take_ (i := 2) (N := some 7) (v := ?_) (a' := ?_) #[true, false, true, false, false] rfl rfl (by kernel_rfl) (fun _ _ _ h => h) (Or.inl ⟨by rfl, ?_⟩) hHeld ?_ ?_
 rotate_left
 ·
  rintro w' ⟨s0, s1⟩
  go_simp
  with_reducible rfl
 rotate_left
 ·
  simp only [Act.put, List.setIfInBounds_toArray, List.set_cons_zero, List.set_cons_succ, i64_w, i32_w]
  rfl
 refine one_ (i := 1) (N := some 6) #[true, true, true, false, false] rfl rfl (by kernel_rfl) (by decide) (fun K hK => ?_)
 refine goes_ Tryz.func43 (by kernel_rfl) rfl #[.slice A0 l0.length c0] (by rfl) rfl rfl (by (try simp only [List.map_toArray, List.map_cons, List.map_nil]); first | done | rfl | (simp only [List.length_drop, List.length_take]; rfl)) ?_
 with_reducible refine (redpencilref12_Visible.calls k _ _ l0 t482 _ ?side1 ?side2 A3.out).mono ?_
 (case side1 => repeat (first | exact (Kd.C_below HR0.out HB.out) | (with_reducible refine Kd.C_alloc ?_ _) | (with_reducible refine Kd.C_drewN ?_ _) | (with_reducible refine Kd.C_drew ?_)))
 (case side2 => exact HC0.out)
 rintro e w7 ⟨v483, rfl, ho0, hb⟩
 refine ⟨_, rfl, ?_⟩
 have n0_ := Aside0.mk (Kd.R_lower ho0 (below_size (by repeat (first | (with_reducible first | exact HB.out | apply below_alloc | apply pw_below_drewN | apply below_drew1 | refine below_set ?_ GE481.out) | exact HB.out))))
 have n1_ := Aside0.mk (blk_below (g := gb481) (o := .cells #[.int .i64 a1_0, .int .i64 a1_1] 24 (0, 0)) (by (with_reducible repeat (first | refine blk_drewN ?_ _ | refine blk_drew ?_ | refine blk_alloc ?_ _)); exact BK481.out) hb)
 have n2_ := Aside0.mk (below_step (by repeat (first | (with_reducible first | exact HB.out | apply below_alloc | apply pw_below_drewN | apply below_drew1 | refine below_set ?_ GE481.out) | exact HB.out)) hb)
 clear BK481
 clear HB
 have HO484 := n0_
 have BK481 := n1_
 have HB := n2_
 clear n0_ n1_ n2_
 (try clear hb)
 (try clear hb2)
 (try clear hk)
 (try clear hi)
 (try clear ho0)
 obtain ⟨Ao8, co8, eo8⟩ := Kd.R_slice HO484.out
 (first | subst eo8 | (injection eo8 with f1_ f2_ f3_; have f4_ := f1_.symm; have f5_ := f3_.symm; clear f1_ f2_ f3_; subst f4_; subst f5_))
 refine hK.out _ _ ⟨(blk_cell BK481.out 0).trans rfl, (blk_cell BK481.out 1).trans rfl⟩ (fun hHeld => ?_)
 clear hK K
 refine norm_ (a' := ?_) ?_ ?_
 rotate_left
 ·
  show Act.put _ (some 6) _ = _
  simp only [Act.put, List.setIfInBounds_toArray, List.set_cons_zero, List.set_cons_succ, i64_w, i32_w]
  rfl
 refine one_ (i := 3) (N := some 8) #[true, true, true, true, false] rfl rfl (by kernel_rfl) (by decide) (fun K hK => ?_)
 refine goes_ Tryz.func59 (by kernel_rfl) rfl #[.slice Ao8 t482.length co8, .agg #[.int .i64 a1_0, .int .i64 a1_1]] (by rfl) rfl rfl (by (try simp only [List.map_toArray, List.map_cons, List.map_nil]); first | done | rfl | (simp only [List.length_drop, List.length_take]; rfl)) ?_
 with_reducible refine (redpencilref10_Find.calls k _ _ t482 a1_0 a1_1 t485 _ ?side1 ?side2 A4.out).mono ?_
 (case side1 => repeat (first | exact (Kd.R_reads' HO484.out).2.2 | (with_reducible refine Kd.C_alloc ?_ _) | (with_reducible refine Kd.C_drewN ?_ _) | (with_reducible refine Kd.C_drew ?_)))
 (case side2 => exact (Kd.R_reads' HO484.out).2.1)
 rintro e w9 ⟨rfl, hb⟩
 refine ⟨_, rfl, ?_⟩
 have n0_ := Aside0.mk (Kd.R_below (by (with_reducible repeat (first | apply Kd.R_alloc | apply Kd.R_drewN | apply Kd.R_drew)); exact HO484.out) hb)
 have n1_ := Aside0.mk (blk_below (g := gb481) (o := .cells #[.int .i64 a1_0, .int .i64 a1_1] 24 (0, 0)) (by (with_reducible repeat (first | refine blk_drewN ?_ _ | refine blk_drew ?_ | refine blk_alloc ?_ _)); exact BK481.out) hb)
 have n2_ := Aside0.mk (below_step (by repeat (first | (with_reducible first | exact HB.out | apply below_alloc | apply pw_below_drewN | apply below_drew1 | refine below_set ?_ GE481.out) | exact HB.out)) hb)
 clear HO484
 clear BK481
 clear HB
 have HO484 := n0_
 have BK481 := n1_
 have HB := n2_
 clear n0_ n1_ n2_
 (try clear hb)
 (try clear hb2)
 (try clear hk)
 (try clear hi)
 refine hK.out _ _ ⟨(blk_cell BK481.out 0).trans rfl, (blk_cell BK481.out 1).trans rfl⟩ (fun hHeld => ?_)
 clear hK K
 refine norm_ (a' := ?_) ?_ ?_
 rotate_left
 ·
  show Act.put _ (some 8) _ = _
  simp only [Act.put, List.setIfInBounds_toArray, List.set_cons_zero, List.set_cons_succ, i64_w, i32_w]
  rfl
 refine pure_ (i := 4) (N := some 4) (v := ?_) (a' := ?_) #[true, true, true, true, true] rfl rfl (by kernel_rfl) (fun _ _ _ h => h) (Or.inl ⟨by rfl, ?_⟩) ?_ ?_
 rotate_left
 ·
  intro w'
  go_simp
  with_reducible rfl
 rotate_left
 ·
  simp only [Act.put, List.setIfInBounds_toArray, List.set_cons_zero, List.set_cons_succ, i64_w, i32_w]
  rfl
 refine done_ (by kernel_rfl) ?_
 try go_wp2
 go_ret
 exact ⟨by first | rfl | (simp [errW_none, errW_some] <;> rfl) | (simp [*, errW_none, errW_some] <;> rfl), by repeat (first | (with_reducible first | exact HB.out | apply below_alloc | apply pw_below_drewN | apply below_drew1 | refine below_set ?_ GE481.out) | exact HB.out)⟩
def redpencilref12_Before.f (k : Nat) (l0 : List (S35)) (a1_0 : Int) (a1_1 : Int) : Option (Int) := (redpencilref11_Order.f l0).bind fun t487 => ((redpencilref10_Find.f k t487 a1_0 a1_1).bind fun t490 => (if t490 < 0 then (some (-1)) else (if 0 ≤ t490 then (if t490 ≤ (t487.length : Int) then ((redpencilref12_alive.f k (t487.take (t490 : Int).toNat)).bind fun t495 => (some (t495.length : Int))) else (none)) else (none))))
set_option maxHeartbeats 8000000 in
set_option maxRecDepth 100000 in
theorem redpencilref12_Before.calls (k : Nat) (A0 : Option Addr) (c0 : Nat) (l0 : List (S35)) (a1_0 : Int) (a1_1 : Int) (r : Int) (w : World) (hr0 : Kd.C k35 w A0 l0.length l0) (hc0 : l0.length ≤ c0) (h : redpencilref12_Before.f k l0 a1_0 a1_1 = some r) :
  Calls Tryz.prog 45 #[.slice A0 l0.length c0, .agg #[.int .i64 a1_0, .int .i64 a1_1]] w fun e w' => e = .returned (.int .i64 r) ∧ Below w.heap.size w w' := by
 have hu24 := Tryz.underlying24
 have HR0 := Aside0.mk hr0
 have HC0 := Aside0.mk hc0
 clear hr0 hc0
 have HB := Aside0.mk (Below.refl w.heap.size w)
 have H : ((redpencilref11_Order.f l0).bind fun t487 => ((redpencilref10_Find.f k t487 a1_0 a1_1).bind fun t490 => (if t490 < 0 then (some (-1)) else (if 0 ≤ t490 then (if t490 ≤ (t487.length : Int) then ((redpencilref12_alive.f k (t487.take (t490 : Int).toNat)).bind fun t495 => (some (t495.length : Int))) else (none)) else (none))))) = some r := h
 clear h
 replace H := Option.bind_eq_some_iff.mp H
 obtain ⟨t487, A30, H⟩ := H
 replace H : ((redpencilref10_Find.f k t487 a1_0 a1_1).bind fun t490 => (if t490 < 0 then (some (-1)) else (if 0 ≤ t490 then (if t490 ≤ (t487.length : Int) then ((redpencilref12_alive.f k (t487.take (t490 : Int).toNat)).bind fun t495 => (some (t495.length : Int))) else (none)) else (none)))) = some r := H
 have A3 := Aside0.mk A30
 clear A30
 replace H := Option.bind_eq_some_iff.mp H
 obtain ⟨t490, A40, H⟩ := H
 replace H : (if t490 < 0 then (some (-1)) else (if 0 ≤ t490 then (if t490 ≤ (t487.length : Int) then ((redpencilref12_alive.f k (t487.take (t490 : Int).toNat)).bind fun t495 => (some (t495.length : Int))) else (none)) else (none))) = some r := H
 have A4 := Aside0.mk A40
 clear A40
 by_cases c5 : t490 < 0
 ·
  rw [if_pos c5] at H
  have c5b0 : decide (t490 < 0) = true := decide_eq_true c5
  clear c5
  obtain rfl := Option.some.inj H
  go_enter Tryz.func45, Tryz.ntmps45
  go_wp2_with (first | ((with_reducible refine gate_dst (N := 3) rfl ?_); refine box_event ?hg (N := 3) ?hd (cs := #[.int .i64 a1_0, .int .i64 a1_1]) (t := 24) ?hr ?_; (case hd => rfl); (case hg => rfl); (case hr => first | (go_simp; done) | (go_simp; rfl)); intro gb486 hg w6 hbox hb; have n0_ := Aside0.mk (below_step (by repeat (first | (with_reducible first | exact HB.out | apply below_alloc | apply pw_below_drewN | apply below_drew1) | exact HB.out)) hb); have n1_ := Aside0.mk (hbox); have n2_ := Aside0.mk ((by rw [hg]; exact (below_size (by repeat (first | (with_reducible first | exact HB.out | apply below_alloc | apply pw_below_drewN | apply below_drew1) | exact HB.out))) : w.heap.size ≤ gb486)); have n3_ := Aside0.mk ((by rw [hg]; exact (below_size (by repeat (first | (with_reducible first | exact HB.out | apply below_alloc | apply pw_below_drewN | apply below_drew1) | exact HB.out))) : w.heap.size ≤ gb486)); clear HB; have HB := n0_; have BK486 := n1_; have GW486 := n2_; have GE486 := n3_; clear n0_ n1_ n2_ n3_; clear hb hbox hg) | ((with_reducible refine gate_callee (f := 22) rfl ?_); refine goesL_ (some 8) rfl rfl Tryz.func22 (by kernel_rfl) rfl #[.slice A0 l0.length c0] rfl (by (try simp only [List.map_toArray, List.map_cons, List.map_nil]); first | done | rfl | (simp only [List.length_drop, List.length_take]; rfl)) ?_; (with_reducible refine (redpencilref11_Order.calls _ _ l0 t487 _ ?side1 ?side2 A3.out).mono ?_); (case side1 => repeat (first | exact (Kd.C_below HR0.out HB.out) | (with_reducible refine Kd.C_alloc ?_ _) | (with_reducible refine Kd.C_drewN ?_ _) | (with_reducible refine Kd.C_drew ?_))); (case side2 => exact HC0.out); rintro e w7 ⟨v488, rfl, ho0, hb⟩; refine ⟨_, rfl, ?_⟩; have n0_ := Aside0.mk (Kd.R_lower ho0 (below_size (by repeat (first | (with_reducible first | exact HB.out | apply below_alloc | apply pw_below_drewN | apply below_drew1 | refine below_set ?_ GE486.out) | exact HB.out)))); have n1_ := Aside0.mk (blk_below (g := gb486) (o := .cells #[.int .i64 a1_0, .int .i64 a1_1] 24 (0, 0)) (by (with_reducible repeat (first | refine blk_drewN ?_ _ | refine blk_drew ?_ | refine blk_alloc ?_ _)); exact BK486.out) hb); have n2_ := Aside0.mk (below_step (by repeat (first | (with_reducible first | exact HB.out | apply below_alloc | apply pw_below_drewN | apply below_drew1 | refine below_set ?_ GE486.out) | exact HB.out)) hb); clear BK486; clear HB; have HO489 := n0_; have BK486 := n1_; have HB := n2_; clear n0_ n1_ n2_; (try clear hb); (try clear hb2); (try clear hk); (try clear hi); (try clear ho0); have hcz8_0 : w7.cell? ⟨gb486, 0, none⟩ = some (.int .i64 a1_0) := (blk_cell BK486.out 0).trans rfl; have hcz8_1 : w7.cell? ⟨gb486, 1, none⟩ = some (.int .i64 a1_1) := (blk_cell BK486.out 1).trans rfl; have hfz8_0 := blk_frozen BK486.out 0; have hfz8_1 := blk_frozen BK486.out 1; obtain ⟨Ao9, co9, eo9⟩ := Kd.R_slice HO489.out; subst eo9) | ((with_reducible refine gate_callee (f := 59) rfl ?_); refine goesL_ (some 11) rfl rfl Tryz.func59 (by kernel_rfl) rfl #[.slice Ao9 t487.length co9, .agg #[.int .i64 a1_0, .int .i64 a1_1]] rfl (by (try simp only [List.map_toArray, List.map_cons, List.map_nil]); first | done | rfl | (simp only [List.length_drop, List.length_take]; rfl)) ?_; (with_reducible refine (redpencilref10_Find.calls k _ _ t487 a1_0 a1_1 t490 _ ?side1 ?side2 A4.out).mono ?_); (case side1 => repeat (first | exact (Kd.R_reads' HO489.out).2.2 | (with_reducible refine Kd.C_alloc ?_ _) | (with_reducible refine Kd.C_drewN ?_ _) | (with_reducible refine Kd.C_drew ?_))); (case side2 => exact (Kd.R_reads' HO489.out).2.1); rintro e w10 ⟨rfl, hb⟩; refine ⟨_, rfl, ?_⟩; have n0_ := Aside0.mk (Kd.R_below (by (with_reducible repeat (first | apply Kd.R_alloc | apply Kd.R_drewN | apply Kd.R_drew)); exact HO489.out) hb); have n1_ := Aside0.mk (blk_below (g := gb486) (o := .cells #[.int .i64 a1_0, .int .i64 a1_1] 24 (0, 0)) (by (with_reducible repeat (first | refine blk_drewN ?_ _ | refine blk_drew ?_ | refine blk_alloc ?_ _)); exact BK486.out) hb); have n2_ := Aside0.mk (below_step (by repeat (first | (with_reducible first | exact HB.out | apply below_alloc | apply pw_below_drewN | apply below_drew1 | refine below_set ?_ GE486.out) | exact HB.out)) hb); clear HO489; clear BK486; clear HB; have HO489 := n0_; have BK486 := n1_; have HB := n2_; clear n0_ n1_ n2_; (try clear hb); (try clear hb2); (try clear hk); (try clear hi)))
  go_ret
  exact ⟨by first | rfl | (simp [errW_none, errW_some] <;> rfl) | (simp [*, errW_none, errW_some] <;> rfl), by repeat (first | (with_reducible first | exact HB.out | apply below_alloc | apply pw_below_drewN | apply below_drew1 | refine below_set ?_ GE486.out) | exact HB.out)⟩
 ·
  rw [if_neg c5] at H
  have c5b0 : decide (t490 < 0) = false := decide_eq_false c5
  clear c5
  by_cases c11 : 0 ≤ t490
  ·
   rw [if_pos c11] at H
   have c11b0 := eq_true c11
   have c11b1 : decide (0 ≤ t490) = true := decide_eq_true c11
   clear c11
   by_cases c12 : t490 ≤ (t487.length : Int)
   ·
    rw [if_pos c12] at H
    have c12b0 := eq_true c12
    have c12b1 : decide (t490 ≤ (t487.length : Int)) = true := decide_eq_true c12
    clear c12
    obtain ⟨y491, hy491⟩ : ∃ y_ : List (S35), y_ = (t487.take (t490 : Int).toNat) := ⟨_, rfl⟩
    replace H : ((redpencilref12_alive.f k y491).bind fun t495 => (some (t495.length : Int))) = some r := by first | (rw [hy491]; with_reducible exact H) | (have H2_ := (Option.bind_some _ _).symm.trans H; rw [hy491]; with_reducible exact H2_) | (have H2_ := (Option.bind_some _ _).symm.trans H; with_reducible exact H2_) | with_reducible exact H | (rw [hy491]; exact H) | exact H
    have Ny491 := Aside0.mk hy491
    clear hy491
    replace H := Option.bind_eq_some_iff.mp H
    obtain ⟨t495, A130, H⟩ := H
    replace H : (some (t495.length : Int)) = some r := H
    have A13 := Aside0.mk A130
    clear A130
    obtain rfl := Option.some.inj H
    go_enter Tryz.func45, Tryz.ntmps45
    go_wp2_with (first | ((with_reducible refine gate_dst (N := 3) rfl ?_); refine box_event ?hg (N := 3) ?hd (cs := #[.int .i64 a1_0, .int .i64 a1_1]) (t := 24) ?hr ?_; (case hd => rfl); (case hg => rfl); (case hr => first | (go_simp; done) | (go_simp; rfl)); intro gb486 hg w14 hbox hb; have n0_ := Aside0.mk (below_step (by repeat (first | (with_reducible first | exact HB.out | apply below_alloc | apply pw_below_drewN | apply below_drew1) | exact HB.out)) hb); have n1_ := Aside0.mk (hbox); have n2_ := Aside0.mk ((by rw [hg]; exact (below_size (by repeat (first | (with_reducible first | exact HB.out | apply below_alloc | apply pw_below_drewN | apply below_drew1) | exact HB.out))) : w.heap.size ≤ gb486)); have n3_ := Aside0.mk ((by rw [hg]; exact (below_size (by repeat (first | (with_reducible first | exact HB.out | apply below_alloc | apply pw_below_drewN | apply below_drew1) | exact HB.out))) : w.heap.size ≤ gb486)); clear HB; have HB := n0_; have BK486 := n1_; have GW486 := n2_; have GE486 := n3_; clear n0_ n1_ n2_ n3_; clear hb hbox hg) | ((with_reducible refine gate_callee (f := 22) rfl ?_); refine goesL_ (some 8) rfl rfl Tryz.func22 (by kernel_rfl) rfl #[.slice A0 l0.length c0] rfl (by (try simp only [List.map_toArray, List.map_cons, List.map_nil]); first | done | rfl | (simp only [List.length_drop, List.length_take]; rfl)) ?_; (with_reducible refine (redpencilref11_Order.calls _ _ l0 t487 _ ?side1 ?side2 A3.out).mono ?_); (case side1 => repeat (first | exact (Kd.C_below HR0.out HB.out) | (with_reducible refine Kd.C_alloc ?_ _) | (with_reducible refine Kd.C_drewN ?_ _) | (with_reducible refine Kd.C_drew ?_))); (case side2 => exact HC0.out); rintro e w15 ⟨v488, rfl, ho0, hb⟩; refine ⟨_, rfl, ?_⟩; have n0_ := Aside0.mk (Kd.R_lower ho0 (below_size (by repeat (first | (with_reducible first | exact HB.out | apply below_alloc | apply pw_below_drewN | apply below_drew1 | refine below_set ?_ GE486.out) | exact HB.out)))); have n1_ := Aside0.mk (blk_below (g := gb486) (o := .cells #[.int .i64 a1_0, .int .i64 a1_1] 24 (0, 0)) (by (with_reducible repeat (first | refine blk_drewN ?_ _ | refine blk_drew ?_ | refine blk_alloc ?_ _)); exact BK486.out) hb); have n2_ := Aside0.mk (below_step (by repeat (first | (with_reducible first | exact HB.out | apply below_alloc | apply pw_below_drewN | apply below_drew1 | refine below_set ?_ GE486.out) | exact HB.out)) hb); clear BK486; clear HB; have HO489 := n0_; have BK486 := n1_; have HB := n2_; clear n0_ n1_ n2_; (try clear hb); (try clear hb2); (try clear hk); (try clear hi); (try clear ho0); have hcz16_0 : w15.cell? ⟨gb486, 0, none⟩ = some (.int .i64 a1_0) := (blk_cell BK486.out 0).trans rfl; have hcz16_1 : w15.cell? ⟨gb486, 1, none⟩ = some (.int .i64 a1_1) := (blk_cell BK486.out 1).trans rfl; have hfz16_0 := blk_frozen BK486.out 0; have hfz16_1 := blk_frozen BK486.out 1; obtain ⟨Ao17, co17, eo17⟩ := Kd.R_slice HO489.out; subst eo17) | ((with_reducible refine gate_callee (f := 59) rfl ?_); refine goesL_ (some 11) rfl rfl Tryz.func59 (by kernel_rfl) rfl #[.slice Ao17 t487.length co17, .agg #[.int .i64 a1_0, .int .i64 a1_1]] rfl (by (try simp only [List.map_toArray, List.map_cons, List.map_nil]); first | done | rfl | (simp only [List.length_drop, List.length_take]; rfl)) ?_; (with_reducible refine (redpencilref10_Find.calls k _ _ t487 a1_0 a1_1 t490 _ ?side1 ?side2 A4.out).mono ?_); (case side1 => repeat (first | exact (Kd.R_reads' HO489.out).2.2 | (with_reducible refine Kd.C_alloc ?_ _) | (with_reducible refine Kd.C_drewN ?_ _) | (with_reducible refine Kd.C_drew ?_))); (case side2 => exact (Kd.R_reads' HO489.out).2.1); rintro e w18 ⟨rfl, hb⟩; refine ⟨_, rfl, ?_⟩; have n0_ := Aside0.mk (Kd.R_below (by (with_reducible repeat (first | apply Kd.R_alloc | apply Kd.R_drewN | apply Kd.R_drew)); exact HO489.out) hb); have n1_ := Aside0.mk (blk_below (g := gb486) (o := .cells #[.int .i64 a1_0, .int .i64 a1_1] 24 (0, 0)) (by (with_reducible repeat (first | refine blk_drewN ?_ _ | refine blk_drew ?_ | refine blk_alloc ?_ _)); exact BK486.out) hb); have n2_ := Aside0.mk (below_step (by repeat (first | (with_reducible first | exact HB.out | apply below_alloc | apply pw_below_drewN | apply below_drew1 | refine below_set ?_ GE486.out) | exact HB.out)) hb); clear HO489; clear BK486; clear HB; have HO489 := n0_; have BK486 := n1_; have HB := n2_; clear n0_ n1_ n2_; (try clear hb); (try clear hb2); (try clear hk); (try clear hi); have q19 : (t490 : Int) ≤ ((t487.length : Int) : Int) := of_decide_eq_true (by first | (with_reducible assumption) | assumption); obtain ⟨i019, hi019, _, hsz19, _⟩ := info_parts info35; have hroom19 : t487.length ≤ co17 := (Kd.R_reads' HO489.out).2.1; have hC19 : Kd.C k35 _ Ao17 t487.length t487 := (Kd.R_reads' HO489.out).2.2; have hcut19 := cut_to (P := Tryz.prog) 22 35 .i64 Tryz.underlying22 hi019 Ao17 t487.length co17 t490 (of_decide_eq_true (by first | (with_reducible assumption) | assumption)) q19 hroom19; have hr19 := Kd.C_take (m := (t490 : Int).toNat) hC19 (by omega); have hy19 : y491.length = (t490 : Int).toNat := (by rw [Ny491.out, List.length_take]; omega); rw [← Ny491.out] at hr19; rw [← hy19] at hcut19; have HR494 := Aside0.mk hr19; have HC494 := Aside0.mk (show y491.length ≤ co17 from by omega); clear hr19 hC19 hroom19 hi019 hsz19; have KY19 := Aside0.mk hy19; clear hy19; have KL19 := Aside0.mk (show (t490 : Int).toNat ≤ t487.length from by omega); replace q19 := eq_true q19) | ((with_reducible refine gate_callee (f := 85) rfl ?_); refine goesL_ (some 17) rfl rfl Tryz.func85 (by kernel_rfl) rfl #[.slice Ao17 y491.length co17] rfl (by (try simp only [List.map_toArray, List.map_cons, List.map_nil]); first | done | rfl | (simp only [List.length_drop, List.length_take]; rfl)) ?_; (with_reducible refine (redpencilref12_alive.calls k _ _ y491 t495 _ ?side1 ?side2 A13.out).mono ?_); (case side1 => repeat (first | exact (by repeat (first | (with_reducible exact HR494.out) | (with_reducible refine Kd.C_alloc ?_ _) | (with_reducible refine Kd.C_drewN ?_ _) | (with_reducible refine Kd.C_drew ?_) | exact HR494.out)) | (with_reducible refine Kd.C_alloc ?_ _) | (with_reducible refine Kd.C_drewN ?_ _) | (with_reducible refine Kd.C_drew ?_))); (case side2 => exact HC494.out); rintro e w20 ⟨v496, rfl, ho0, hb⟩; refine ⟨_, rfl, ?_⟩; have n0_ := Aside0.mk (Kd.R_elder' (by (with_reducible repeat (first | apply Kd.R_alloc | apply Kd.R_drewN | apply Kd.R_drew)); exact HO489.out) (Kd.R_base ho0) hb); have n1_ := Aside0.mk (Kd.R_lower (Kd.R_new' ho0 (Kd.R_lt (by (with_reducible repeat (first | apply Kd.R_alloc | apply Kd.R_drewN | apply Kd.R_drew)); exact HO489.out))) (below_size (by repeat (first | (with_reducible first | exact HB.out | apply below_alloc | apply pw_below_drewN | apply below_drew1 | refine below_set ?_ GE486.out) | exact HB.out)))); have n2_ := Aside0.mk (blk_below (g := gb486) (o := .cells #[.int .i64 a1_0, .int .i64 a1_1] 24 (0, 0)) (by (with_reducible repeat (first | refine blk_drewN ?_ _ | refine blk_drew ?_ | refine blk_alloc ?_ _)); exact BK486.out) hb); have n3_ := Aside0.mk (Kd.C_below (by repeat (first | (with_reducible exact HR494.out) | (with_reducible refine Kd.C_alloc ?_ _) | (with_reducible refine Kd.C_drewN ?_ _) | (with_reducible refine Kd.C_drew ?_) | exact HR494.out)) hb); have n4_ := Aside0.mk (below_step (by repeat (first | (with_reducible first | exact HB.out | apply below_alloc | apply pw_below_drewN | apply below_drew1 | refine below_set ?_ GE486.out) | exact HB.out)) hb); clear HO489; clear BK486; clear HR494; clear HB; have HO489 := n0_; have HO497 := n1_; have BK486 := n2_; have HR494 := n3_; have HB := n4_; clear n0_ n1_ n2_ n3_ n4_; (try clear hb); (try clear hb2); (try clear hk); (try clear hi); (try clear ho0); obtain ⟨Ao21, co21, eo21⟩ := Kd.R_slice HO497.out; subst eo21))
    go_ret
    exact ⟨by first | rfl | (simp [errW_none, errW_some] <;> rfl) | (simp [*, errW_none, errW_some] <;> rfl), by repeat (first | (with_reducible first | exact HB.out | apply below_alloc | apply pw_below_drewN | apply below_drew1 | refine below_set ?_ GE486.out) | exact HB.out)⟩
   ·
    rw [if_neg c12] at H
    exact absurd H (by simp)
  ·
   rw [if_neg c11] at H
   exact absurd H (by simp)
end Go.Proofs.YtjlpaagnajmogaaGreat.PWalk
end
section
namespace Go.Proofs.YtjlpaagnajmogaaGreat.PWalk
open Go.RowKit Go.Proofs.YtjlpaagnajmogaaGreatW.PrintWords Go.Proofs.YtjlpaagnajmogaaGreatW.PrintLast Go.Proofs.YtjlpaagnajmogaaGreatW.PrintMore
set_option linter.unusedVariables false
set_option linter.unusedSimpArgs false
open Go.Shelf
attribute [local go_sem] Oper.semAt_some
theorem idxN_is (d : Dot) : ∀ (l : List Node) (i : Nat), idxN l i d = (l.findIdx? (dotIs d)).map (· + i)
 | [], i => rfl
 | x :: l, i => by
  rw [List.findIdx?_cons]
  unfold idxN
  by_cases h : d = x.f0
  ·
   rw [if_pos h, if_pos (by unfold dotIs; rw [h]; simp)]
   simp
  ·
   rw [if_neg h, if_neg (by unfold dotIs; intro e; apply h; rw [dot_beq] at e; exact (of_decide_eq_true e).symm), idxN_is d l (i + 1)]
   cases l.findIdx? (dotIs d) with
   | none => rfl
   | some j => simp; omega
theorem find10_is (l : List Node) (hl : l.length ≤ 1000000) (d : Dot) (k : Nat) (hk : l.length < k) : redpencilref10_Find.f k l d.f0 d.f1 = some (idxFrom (dotIs d) l) := by
 rw [refFind_is l hl d k hk, idxN_is]
 unfold idxFrom
 cases l.findIdx? (dotIs d) with
 | none => rfl
 | some j => simp
theorem alive_from (l : List Node) (hl : l.length ≤ 1000000) : ∀ (q k i : Nat), i + q = l.length → q < k → redpencilref12_alive.l0 k l (aliveOf (l.take i)) (i : Int) = some (aliveOf l) := by
 intro q
 induction q with
 | zero =>
  intro k i hi hk
  obtain ⟨k, rfl⟩ : ∃ m, k = m + 1 := ⟨k - 1, by omega⟩
  simp only [redpencilref12_alive.l0]
  rw [if_neg (by omega), show i = l.length by omega, List.take_length]
 | succ q ih =>
  intro k i hi hk
  obtain ⟨k, rfl⟩ : ∃ m, k = m + 1 := ⟨k - 1, by omega⟩
  have hlt : i < l.length := by omega
  simp only [redpencilref12_alive.l0]
  rw [if_pos (by omega), if_pos (by omega), rdN hlt, wrap_succ hlt hl]
  have hs : aliveOf (l.take (i + 1)) = aliveOf (l.take i) ++ aliveOf [l[i]] := by
   unfold aliveOf
   rw [List.take_succ_eq_append_getElem hlt, List.filter_append]
  have := ih k (i + 1) (by omega) (by omega)
  rw [hs] at this
  by_cases h : l[i].f3 = 0
  ·
   rw [if_pos h]
   rw [show aliveOf [l[i]] = [] by unfold aliveOf; simp [h], List.append_nil] at this
   exact this
  ·
   rw [if_neg h, if_pos (by have := aliveOf_le (l.take i); rw [List.length_take] at this; omega)]
   rw [show aliveOf [l[i]] = [l[i]] by unfold aliveOf; simp [h]] at this
   exact this
theorem alive_is (l : List Node) (hl : l.length ≤ 1000000) (k : Nat) (hk : l.length < k) : redpencilref12_alive.f k l = some (aliveOf l) := alive_from l hl l.length k 0 (by omega) hk
theorem ord_len {ll : List Node} (hs : storeOk ll = true) : (nds (ordOf ll)).length ≤ ll.length := by rw [nds_length]; exact ord_le (store_of hs)
theorem vis_len {ll : List Node} (hs : storeOk ll = true) : (visOf ll).length ≤ ll.length := Nat.le_trans (aliveOf_le _) (ord_len hs)
theorem visible_is {ll : List Node} (hl : ll.length ≤ 40) (hs : storeOk ll = true) (k : Nat) (hk : 60 ≤ k) : redpencilref12_Visible.f k ll = some (visOf ll) := by
 have := ord_len hs
 unfold redpencilref12_Visible.f
 rw [order_is (by omega) hs]
 simp only [Option.bind_some]
 rw [alive_is _ (by omega) k (by omega)]
 rfl
theorem first2_k {k : Nat} (hk : 3 ≤ k) (a b : Int) : index_first.f k [a, b] = some (if a = 0 then b else a) := by
 obtain ⟨m, rfl⟩ : ∃ m, k = m + 3 := ⟨k - 3, by omega⟩
 by_cases ha : a = 0
 ·
  by_cases hb : b = 0
  ·
   subst ha hb; simp [index_first.f, index_first.l0, rd, wrap64]
  ·
   subst ha
   simp [index_first.f, index_first.l0, rd, wrap64, hb]
 ·
  simp [index_first.f, index_first.l0, rd, ha]
theorem sees_bad {ll : List Node} (hl : ll.length ≤ 40) (hs : ¬ storeOk ll = true) (i : Int) {k : Nat} (hk : 3 ≤ k) : redpencillaw12_sees.f k ll i 0 0 0 0 0 0 2 = some true := by
 unfold redpencillaw12_sees.f index_At.f
 rw [vis_is (by omega), if_neg hs]
 simp only [Option.bind_some, when_is, first2_k hk]
 by_cases h : i < 0
 ·
  rw [if_pos h]; rfl
 ·
  rw [if_neg h]; rfl
theorem sees_range {ll : List Node} (hl : ll.length ≤ 40) (hs : storeOk ll = true) {i : Int} (hi : i < 0 ∨ (visOf ll).length ≤ i) {k : Nat} (hk : 3 ≤ k) : redpencillaw12_sees.f k ll i 0 0 0 0 0 0 3 = some true := by
 unfold redpencillaw12_sees.f index_At.f
 rw [vis_is (by omega), if_pos hs]
 simp only [Option.bind_some, when_is, first2_k hk]
 by_cases h : i < 0
 ·
  rw [if_pos h]; rfl
 ·
  rw [if_neg h, show decide (i ≥ ((visOf ll).length : Int)) = true from decide_eq_true (by omega)]; rfl
theorem sees_at {ll : List Node} (hl : ll.length ≤ 40) (hs : storeOk ll = true) {i : Int} (h0 : 0 ≤ i) (h1 : i < (visOf ll).length) {k : Nat} (hk : 3 ≤ k) :
  redpencillaw12_sees.f k ll i (rd_T35 (visOf ll) i).f0.f0 (rd_T35 (visOf ll) i).f0.f1 (rd_T35 (visOf ll) i).f1.f0 (rd_T35 (visOf ll) i).f1.f1 (rd_T35 (visOf ll) i).f2 (rd_T35 (visOf ll) i).f3 0 = some true := by
 unfold redpencillaw12_sees.f index_At.f
 rw [vis_is (by omega), if_pos hs]
 simp only [Option.bind_some, when_is, first2_k hk]
 rw [if_neg (by omega), show decide (i ≥ ((visOf ll).length : Int)) = false from decide_eq_false (by omega)]
 simp only [Bool.false_eq_true, if_false, if_true, Option.bind_some]
 rw [if_pos h0, if_pos h1]
 simp
theorem of_bad {ll : List Node} (hl : ll.length ≤ 40) {d : Dot} (h : ¬ (storeOk ll = true ∧ dotOk d = true)) : redpencillaw12_of.f ll d.f0 d.f1 0 2 = some true := by
 unfold redpencillaw12_of.f index_Of.f
 rw [if_pos (by omega), if_neg h]
 rfl
theorem of_none {ll : List Node} (hl : ll.length ≤ 40) {d : Dot} (hs : storeOk ll = true) (hd : dotOk d = true) (h : idxFrom (dotIs d) (visOf ll) < 0) : redpencillaw12_of.f ll d.f0 d.f1 0 9 = some true := by
 unfold redpencillaw12_of.f index_Of.f
 rw [if_pos (by omega), if_pos ⟨hs, hd⟩, if_pos h]
 rfl
theorem of_at {ll : List Node} (hl : ll.length ≤ 40) {d : Dot} (hs : storeOk ll = true) (hd : dotOk d = true) (h : ¬ idxFrom (dotIs d) (visOf ll) < 0) : redpencillaw12_of.f ll d.f0 d.f1 (idxFrom (dotIs d) (visOf ll)) 0 = some true := by
 unfold redpencillaw12_of.f index_Of.f
 rw [if_pos (by omega), if_pos ⟨hs, hd⟩, if_neg h]
 simp
theorem before_bad {ll : List Node} (hl : ll.length ≤ 40) {d : Dot} (h : ¬ (storeOk ll = true ∧ dotOk d = true)) : redpencillaw12_before.f ll d.f0 d.f1 0 2 = some true := by
 unfold redpencillaw12_before.f index_Before.f
 rw [if_pos (by omega), if_neg h]
 rfl
theorem before_none {ll : List Node} (hl : ll.length ≤ 40) {d : Dot} (hs : storeOk ll = true) (hd : dotOk d = true) (h : idxFrom (dotIs d) (nds (ordOf ll)) < 0) : redpencillaw12_before.f ll d.f0 d.f1 0 9 = some true := by
 unfold redpencillaw12_before.f index_Before.f
 rw [if_pos (by omega), if_pos ⟨hs, hd⟩, if_pos h]
 rfl
theorem before_at {ll : List Node} (hl : ll.length ≤ 40) {d : Dot} (hs : storeOk ll = true) (hd : dotOk d = true) (h : ¬ idxFrom (dotIs d) (nds (ordOf ll)) < 0) : redpencillaw12_before.f ll d.f0 d.f1 ((aliveOf ((nds (ordOf ll)).take (idxFrom (dotIs d) (nds (ordOf ll))).toNat)).length : Int) 0 = some true := by
 unfold redpencillaw12_before.f index_Before.f
 rw [if_pos (by omega), if_pos ⟨hs, hd⟩, if_neg h]
 simp
theorem idxFrom_le (p : Node → Bool) (l : List Node) : idxFrom p l ≤ l.length := by
 rcases idxFrom_cases p l with ⟨h, _⟩ | ⟨k, x, hk, h, _⟩
 ·
  omega
 ·
  have := (List.getElem?_eq_some_iff.1 hk).1; omega
theorem refOf_is {ll : List Node} (hl : ll.length ≤ 40) (hs : storeOk ll = true) (d : Dot) (k : Nat) (hk : 60 ≤ k) : redpencilref12_Of.f k ll d.f0 d.f1 = some (idxFrom (dotIs d) (visOf ll)) := by
 have := vis_len hs
 unfold redpencilref12_Of.f
 rw [visible_is hl hs k hk]
 simp only [Option.bind_some]
 rw [find10_is _ (by omega) d k (by omega)]
 rfl
theorem refBefore_is {ll : List Node} (hl : ll.length ≤ 40) (hs : storeOk ll = true) (d : Dot) (k : Nat) (hk : 60 ≤ k) : redpencilref12_Before.f k ll d.f0 d.f1 = some (if idxFrom (dotIs d) (nds (ordOf ll)) < 0 then -1 else ((aliveOf ((nds (ordOf ll)).take (idxFrom (dotIs d) (nds (ordOf ll))).toNat)).length : Int)) := by
 have := ord_len hs
 unfold redpencilref12_Before.f
 rw [order_is (by omega) hs]
 simp only [Option.bind_some]
 rw [find10_is _ (by omega) d k (by omega)]
 simp only [Option.bind_some]
 by_cases h : idxFrom (dotIs d) (nds (ordOf ll)) < 0
 ·
  rw [if_pos h, if_pos h]
 ·
  rw [if_neg h, if_neg h, if_pos (by omega), if_pos (idxFrom_le _ _), alive_is _ (by rw [List.length_take]; omega) k (by rw [List.length_take]; omega)]
  rfl
end Go.Proofs.YtjlpaagnajmogaaGreat.PWalk
end
