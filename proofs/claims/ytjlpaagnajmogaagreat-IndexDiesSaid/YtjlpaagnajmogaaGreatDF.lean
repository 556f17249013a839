/-
  The law IndexDies: a store in which one more visible node was killed lacks its character, and nothing else changes. Part 6 of 10.
-/
import Derived.Test.YtjlpaagnajmogaaGreatDE
import Derived.Shelf.SlSortCmp.NoneTotal
section
namespace Go.Proofs.YtjlpaagnajmogaaGreat.PWalk
open Go.RowKit Go.Proofs.YtjlpaagnajmogaaGreatW.PrintWords Go.Proofs.YtjlpaagnajmogaaGreatW.PrintLast Go.Proofs.YtjlpaagnajmogaaGreatW.PrintMore
set_option linter.unusedVariables false
set_option linter.unusedSimpArgs false
attribute [local go_sem high] eqA35
def index_Runes.l0 : Nat → Int → List Int → List (S35) → Int → Int → Option (List Int × Int)
 | 0, _, _, _, _, _ => none
 | k + 1, x5, x6, x14, x15, x16 => if x16 < x15 then (if 0 ≤ x16 then (if x16 < (x14.length : Int) then (if x6.length < 35184372088832 then (index_Runes.l0 k x5 (x6 ++ [(rd_T35 x14 x16).f3]) x14 x15 (wrap64 (x16 + 1))) else (none)) else (none)) else (none)) else (some (x6, x5))
def index_Runes.f (k : Nat) (l0 : List (S35)) : Option (List Int × Int) := (index_visible.f l0).bind fun bt309 => (index_Runes.l0 k bt309.2 ([] : List Int) bt309.1 (bt309.1.length : Int) 0)
set_option maxHeartbeats 8000000 in
set_option maxRecDepth 100000 in
theorem index_Runes.calls (k : Nat) (A0 : Option Addr) (c0 : Nat) (l0 : List (S35)) (r1 : List Int) (r2 : Int) (w : World) (hr0 : Kd.C k35 w A0 l0.length l0) (hc0 : l0.length ≤ c0) (h : index_Runes.f k l0 = some (r1, r2)) :
  Calls Tryz.prog 79 #[.slice A0 l0.length c0] w fun e w' => ∃ v0_ : Value, e = .returned (.tuple #[v0_, .int .i64 r2]) ∧ Kd.R (Kd.int .i32) 21 w' w.heap.size (fun _ => True) v0_ r1 ∧ Below w.heap.size w w' := by
 have hu35 := Tryz.underlying35
 have HR0 := Aside0.mk hr0
 have HC0 := Aside0.mk hc0
 clear hr0 hc0
 have HB := Aside0.mk (Below.refl w.heap.size w)
 have H : ((index_visible.f l0).bind fun bt309 => (index_Runes.l0 k bt309.2 ([] : List Int) bt309.1 (bt309.1.length : Int) 0)) = some (r1, r2) := h
 clear h
 replace H := Option.bind_eq_some_iff.mp H
 obtain ⟨⟨t309, t310⟩, A20, H⟩ := H
 replace H : (index_Runes.l0 k t310 ([] : List Int) t309 (t309.length : Int) 0) = some (r1, r2) := H
 have A2 := Aside0.mk A20
 clear A20
 have H' := Aside0.mk H
 clear H
 go_enter Tryz.func79, Tryz.ntmps79
 go_wp2_with (first | ((with_reducible refine gate_callee (f := 98) rfl ?_); refine goesL_ (some 11) rfl rfl Tryz.func98 (by kernel_rfl) rfl #[.slice A0 l0.length c0] rfl (by (try simp only [List.map_toArray, List.map_cons, List.map_nil]); first | done | rfl | (simp only [List.length_drop, List.length_take]; rfl)) ?_; (with_reducible refine (index_visible.calls _ _ l0 t309 t310 _ ?side1 ?side2 A2.out).mono ?_); (case side1 => repeat (first | exact HR0.out | (with_reducible refine Kd.C_alloc ?_ _) | (with_reducible refine Kd.C_drewN ?_ _) | (with_reducible refine Kd.C_drew ?_))); (case side2 => exact HC0.out); rintro e w3 ⟨v311, rfl, ho0, hb⟩; refine ⟨_, rfl, ?_⟩; have n0_ := Aside0.mk (Kd.R_lower ho0 (below_size (by repeat (first | (with_reducible first | exact HB.out | apply below_alloc | apply pw_below_drewN | apply below_drew1) | exact HB.out)))); have n1_ := Aside0.mk (below_step (by repeat (first | (with_reducible first | exact HB.out | apply below_alloc | apply pw_below_drewN | apply below_drew1) | exact HB.out)) hb); clear HB; have HO312 := n0_; have HB := n1_; clear n0_ n1_; (try clear hb); (try clear hb2); (try clear hk); (try clear hi); (try clear ho0); obtain ⟨Ao4, co4, eo4⟩ := Kd.R_slice HO312.out; subst eo4))
 go_loopg [6, 16] k (fun kq v6 v16 w' => ∃ (x6_1 : List Int) (x16_1 : Int), v16 = .int .i64 x16_1 ∧ Aside0 (index_Runes.l0 kq t310 x6_1 t309 (t309.length : Int) x16_1 = some (r1, r2)) ∧ Aside0 (kq ≤ k) ∧ Aside0 (Kd.R (Kd.int .i32) 21 w' w.heap.size (fun _ => True) v6 x6_1) ∧ Aside0 (Kd.R k35 35 w' w.heap.size (fun _ => True) (.slice Ao4 t309.length co4) t309) ∧ Aside0 (Below w.heap.size w w'))
 case atStart => exact ⟨(([] : List Int)), (0), (by first | rfl | (simp; done) | (simp [*]; done)), H', ⟨Nat.le_refl _⟩, ⟨by first | exact Kd.R_nil _ _ _ _ _ | exact Kd.N_nil _ _ _ _ _ | exact Kd.V_nil _ _ _ _ _ | exact Kd.Q_nil _ _ _ _ _ | exact Kd.S_nil _ _ _ _ _⟩, ⟨by (with_reducible repeat (first | apply Kd.R_alloc | apply Kd.R_drewN | apply Kd.R_drew)); exact HO312.out⟩, ⟨by repeat (first | (with_reducible first | exact HB.out | apply below_alloc | apply pw_below_drewN | apply below_drew1) | exact HB.out)⟩⟩
 case round =>
  clear H'
  try clear p2
  obtain ⟨x6_1, x16_1, rfl, HA, HK1, HO_6, HO_14, HB⟩ := hrel
  cases gk with
  | zero => exact absurd HA.out (by simp [index_Runes.l0])
  | succ k1 =>
   have H := HA.out
   clear HA
   simp only [index_Runes.l0] at H
   by_cases c5 : x16_1 < (t309.length : Int)
   ·
    rw [if_pos c5] at H
    have c5b0 : decide (x16_1 < (t309.length : Int)) = true := decide_eq_true c5
    clear c5
    by_cases c6 : 0 ≤ x16_1
    ·
     rw [if_pos c6] at H
     have c6b0 : decide (0 ≤ x16_1) = true := decide_eq_true c6
     clear c6
     by_cases c7 : x16_1 < (t309.length : Int)
     ·
      rw [if_pos c7] at H
      have c7b0 : decide (x16_1 < (t309.length : Int)) = true := decide_eq_true c7
      clear c7
      by_cases c8 : x6_1.length < 35184372088832
      ·
       rw [if_pos c8] at H
       have LMc8 := Aside0.mk c8
       clear c8
       obtain ⟨y315, hy315⟩ : ∃ y_ : List Int, y_ = (x6_1 ++ [(rd_T35 t309 x16_1).f3]) := ⟨_, rfl⟩
       replace H : (index_Runes.l0 k1 t310 y315 t309 (t309.length : Int) (wrap64 (x16_1 + 1))) = some (r1, r2) := by first | (rw [hy315]; with_reducible exact H) | (have H2_ := (Option.bind_some _ _).symm.trans H; rw [hy315]; with_reducible exact H2_) | (have H2_ := (Option.bind_some _ _).symm.trans H; with_reducible exact H2_) | with_reducible exact H | (rw [hy315]; exact H) | exact H
       have Ny315 := Aside0.mk hy315
       clear hy315
       have H' := Aside0.mk H
       clear H
       have p313 : 0 ≤ (x16_1 : Int) := of_decide_eq_true (by first | (with_reducible assumption) | assumption)
       have q313 : x16_1 < (t309.length : Int) := of_decide_eq_true (by first | (with_reducible assumption) | assumption)
       obtain ⟨ad313, e313, hx313_0, hx313_1, hx313_2, hx313_3, hx313_4, hx313_5⟩ := at_T35 (Kd.R_reads' HO_14.out).2.2 x16_1 p313 q313
       cases e313
       replace p313 := eq_true p313
       replace q313 := eq_true q313
       go_wp2_with (first | ((with_reducible refine gate_dst (N := 8) rfl ?_); refine box_event ?hg (N := 8) ?hd (cs := #[.int .i64 0, .int .i64 0, .int .i64 0, .int .i64 0, .int .i64 0, .int .i32 0]) (t := 35) ?hr ?_; (case hd => rfl); (case hg => rfl); (case hr => first | (go_simp; done) | (go_simp; rfl)); intro gb314 hg w9 hbox hb; have n0_ := Aside0.mk (Kd.R_below (by (with_reducible repeat (first | apply Kd.R_alloc | apply Kd.R_drewN | apply Kd.R_drew)); exact HO_6.out) hb); have n1_ := Aside0.mk (Kd.R_below (Kd.R_elderB (by (with_reducible repeat (first | apply Kd.R_alloc | apply Kd.R_drewN | apply Kd.R_drew)); exact HO_14.out) gb314 (Nat.le_of_eq hg.symm)) hb); have n2_ := Aside0.mk (below_step (by repeat (first | (with_reducible first | exact HB.out | apply below_alloc | apply pw_below_drewN | apply below_drew1) | exact HB.out)) hb); have n3_ := Aside0.mk (hbox); have n4_ := Aside0.mk ((by rw [hg]; exact (below_size (by repeat (first | (with_reducible first | exact HB.out | apply below_alloc | apply pw_below_drewN | apply below_drew1) | exact HB.out))) : w.heap.size ≤ gb314)); have n5_ := Aside0.mk ((by rw [hg]; exact (below_size (by repeat (first | (with_reducible first | exact HB.out | apply below_alloc | apply pw_below_drewN | apply below_drew1) | exact HB.out))) : w.heap.size ≤ gb314)); clear HO_6; clear HO_14; clear HB; have HO_6 := n0_; have HO_14 := n1_; have HB := n2_; have BK314 := n3_; have GW314 := n4_; have GE314 := n5_; clear n0_ n1_ n2_ n3_ n4_ n5_; clear hb hbox hg; have hcz10_0 : w9.cell? ⟨gb314, 0, none⟩ = some (.int .i64 0) := (blk_cell BK314.out 0).trans rfl; have hcz10_1 : w9.cell? ⟨gb314, 1, none⟩ = some (.int .i64 0) := (blk_cell BK314.out 1).trans rfl; have hcz10_2 : w9.cell? ⟨gb314, 2, none⟩ = some (.int .i64 0) := (blk_cell BK314.out 2).trans rfl; have hcz10_3 : w9.cell? ⟨gb314, 3, none⟩ = some (.int .i64 0) := (blk_cell BK314.out 3).trans rfl; have hcz10_4 : w9.cell? ⟨gb314, 4, none⟩ = some (.int .i64 0) := (blk_cell BK314.out 4).trans rfl; have hcz10_5 : w9.cell? ⟨gb314, 5, none⟩ = some (.int .i32 0) := (blk_cell BK314.out 5).trans rfl; have hfz10_0 := blk_frozen BK314.out 0; have hfz10_1 := blk_frozen BK314.out 1; have hfz10_2 := blk_frozen BK314.out 2; have hfz10_3 := blk_frozen BK314.out 3; have hfz10_4 := blk_frozen BK314.out 4; have hfz10_5 := blk_frozen BK314.out 5) | ((with_reducible refine gate_builtin (b := .append) (xs := #[.tmp 20, .tmp 23]) rfl ?_); at_builtin; refine Kd.R_append (Kd.int .i32) (w0 := w) w.heap.size rfl (.tmp 20) (.tmp 23) 57 21 (.int .i32 0) 4 rfl Tryz.underlying57 info21 rfl (by decide) (by omega) u6 x6_1 ((rd_T35 t309 x16_1).f3) [.int .i32 ((rd_T35 t309 x16_1).f3)] (fun _ => True) (fun _ => False) rfl (by first | (go_simp; done) | (go_simp; rfl)) ?aP (fun _ hk => hk.elim) ?aF ?aO ?aB ?aS ?aL ?_; (case aP => exact rfl); (case aB => exact (by repeat (first | (with_reducible first | exact HB.out | apply below_alloc | apply pw_below_drewN | apply below_drew1 | refine below_set ?_ GE314.out) | exact HB.out))); (case aF => exact (fun _ _ => trivial)); (case aO => exact (by (with_reducible repeat (first | apply Kd.R_alloc | apply Kd.R_drewN | apply Kd.R_drew)); exact Kd.R_mono (Kd.R_far (p := ⟨gb314, 5, none⟩) (Kd.R_far (p := ⟨gb314, 4, none⟩) (Kd.R_far (p := ⟨gb314, 3, none⟩) (Kd.R_far (p := ⟨gb314, 2, none⟩) (Kd.R_far (p := ⟨gb314, 1, none⟩) (Kd.R_far (p := ⟨gb314, 0, none⟩) (Kd.R_types HO_6.out BK314.out (by decide)) (fun _ hk => hk.2) (.int .i64 ((rd_T35 t309 x16_1).f0.f0))) (fun _ hk => hk.2) (.int .i64 ((rd_T35 t309 x16_1).f0.f1))) (fun _ hk => hk.2) (.int .i64 ((rd_T35 t309 x16_1).f1.f0))) (fun _ hk => hk.2) (.int .i64 ((rd_T35 t309 x16_1).f1.f1))) (fun _ hk => hk.2) (.int .i64 ((rd_T35 t309 x16_1).f2))) (fun _ hk => hk.2) (.int .i32 ((rd_T35 t309 x16_1).f3))) (fun _ hk => trivial))); (case aS => exact (below_size (by repeat (first | (with_reducible first | exact HB.out | apply below_alloc | apply pw_below_drewN | apply below_drew1 | refine below_set ?_ GE314.out) | exact HB.out)))); (case aL => have := LMc8.out; omega); intro v316 w11 ho hb hg hat; rw [← Ny315.out] at ho; have n0_ := Aside0.mk (Kd.R_over' (by (with_reducible repeat (first | apply Kd.R_alloc | apply Kd.R_drewN | apply Kd.R_drew)); exact (Kd.R_mono (Kd.R_far (p := ⟨gb314, 5, none⟩) (Kd.R_far (p := ⟨gb314, 4, none⟩) (Kd.R_far (p := ⟨gb314, 3, none⟩) (Kd.R_far (p := ⟨gb314, 2, none⟩) (Kd.R_far (p := ⟨gb314, 1, none⟩) (Kd.R_far (p := ⟨gb314, 0, none⟩) (Kd.R_mono HO_14.out (fun k_ hk => (⟨hk, hk.2⟩ : _ ∧ k_ ≠ gb314))) (fun _ hk => hk.2) (.int .i64 ((rd_T35 t309 x16_1).f0.f0))) (fun _ hk => hk.2) (.int .i64 ((rd_T35 t309 x16_1).f0.f1))) (fun _ hk => hk.2) (.int .i64 ((rd_T35 t309 x16_1).f1.f0))) (fun _ hk => hk.2) (.int .i64 ((rd_T35 t309 x16_1).f1.f1))) (fun _ hk => hk.2) (.int .i64 ((rd_T35 t309 x16_1).f2))) (fun _ hk => hk.2) (.int .i32 ((rd_T35 t309 x16_1).f3))) (fun _ h_ => h_.1))) (Kd.R_typed (by (with_reducible repeat (first | apply Kd.R_alloc | apply Kd.R_drewN | apply Kd.R_drew)); exact (Kd.R_mono (Kd.R_far (p := ⟨gb314, 5, none⟩) (Kd.R_far (p := ⟨gb314, 4, none⟩) (Kd.R_far (p := ⟨gb314, 3, none⟩) (Kd.R_far (p := ⟨gb314, 2, none⟩) (Kd.R_far (p := ⟨gb314, 1, none⟩) (Kd.R_far (p := ⟨gb314, 0, none⟩) (Kd.R_types HO_6.out BK314.out (by decide)) (fun _ hk => hk.2) (.int .i64 ((rd_T35 t309 x16_1).f0.f0))) (fun _ hk => hk.2) (.int .i64 ((rd_T35 t309 x16_1).f0.f1))) (fun _ hk => hk.2) (.int .i64 ((rd_T35 t309 x16_1).f1.f0))) (fun _ hk => hk.2) (.int .i64 ((rd_T35 t309 x16_1).f1.f1))) (fun _ hk => hk.2) (.int .i64 ((rd_T35 t309 x16_1).f2))) (fun _ hk => hk.2) (.int .i32 ((rd_T35 t309 x16_1).f3))) (fun _ h_ => h_.1)))) (by decide) hg); have n1_ := Aside0.mk (blk_grown (g := gb314) (o := .cells #[.int .i64 ((rd_T35 t309 x16_1).f0.f0), .int .i64 ((rd_T35 t309 x16_1).f0.f1), .int .i64 ((rd_T35 t309 x16_1).f1.f0), .int .i64 ((rd_T35 t309 x16_1).f1.f1), .int .i64 ((rd_T35 t309 x16_1).f2), .int .i32 ((rd_T35 t309 x16_1).f3)] 35 (0, 0)) (by (with_reducible repeat (first | refine blk_drewN ?_ _ | refine blk_drew ?_ | refine blk_alloc ?_ _)); refine blk_put (cs := #[.int .i64 ((rd_T35 t309 x16_1).f0.f0), .int .i64 ((rd_T35 t309 x16_1).f0.f1), .int .i64 ((rd_T35 t309 x16_1).f1.f0), .int .i64 ((rd_T35 t309 x16_1).f1.f1), .int .i64 ((rd_T35 t309 x16_1).f2), .int .i32 0]) ?_ 5 _ rfl; (with_reducible repeat (first | refine blk_drewN ?_ _ | refine blk_drew ?_ | refine blk_alloc ?_ _)); refine blk_put (cs := #[.int .i64 ((rd_T35 t309 x16_1).f0.f0), .int .i64 ((rd_T35 t309 x16_1).f0.f1), .int .i64 ((rd_T35 t309 x16_1).f1.f0), .int .i64 ((rd_T35 t309 x16_1).f1.f1), .int .i64 0, .int .i32 0]) ?_ 4 _ rfl; (with_reducible repeat (first | refine blk_drewN ?_ _ | refine blk_drew ?_ | refine blk_alloc ?_ _)); refine blk_put (cs := #[.int .i64 ((rd_T35 t309 x16_1).f0.f0), .int .i64 ((rd_T35 t309 x16_1).f0.f1), .int .i64 ((rd_T35 t309 x16_1).f1.f0), .int .i64 0, .int .i64 0, .int .i32 0]) ?_ 3 _ rfl; (with_reducible repeat (first | refine blk_drewN ?_ _ | refine blk_drew ?_ | refine blk_alloc ?_ _)); refine blk_put (cs := #[.int .i64 ((rd_T35 t309 x16_1).f0.f0), .int .i64 ((rd_T35 t309 x16_1).f0.f1), .int .i64 0, .int .i64 0, .int .i64 0, .int .i32 0]) ?_ 2 _ rfl; (with_reducible repeat (first | refine blk_drewN ?_ _ | refine blk_drew ?_ | refine blk_alloc ?_ _)); refine blk_put (cs := #[.int .i64 ((rd_T35 t309 x16_1).f0.f0), .int .i64 0, .int .i64 0, .int .i64 0, .int .i64 0, .int .i32 0]) ?_ 1 _ rfl; (with_reducible repeat (first | refine blk_drewN ?_ _ | refine blk_drew ?_ | refine blk_alloc ?_ _)); refine blk_put (cs := #[.int .i64 0, .int .i64 0, .int .i64 0, .int .i64 0, .int .i64 0, .int .i32 0]) ?_ 0 _ rfl; (with_reducible repeat (first | refine blk_drewN ?_ _ | refine blk_drew ?_ | refine blk_alloc ?_ _)); exact BK314.out) hg (Kd.R_ne HO_6.out BK314.out (by decide))); have n2_ := Aside0.mk (hb); have n3_ := Aside0.mk (ho); clear HO_14; clear BK314; clear HB; clear HO_6; have HO_14 := n0_; have BK314 := n1_; have HB := n2_; have HO317 := n3_; clear n0_ n1_ n2_ n3_; clear ho hb hg hat))
       go_roundg k1
       case measure => have := HK1.out; omega
       case rel => exact ⟨(y315), (wrap64 (x16_1 + 1)), (by first | rfl | (simp; done) | (simp [*]; done)), H', ⟨by have := HK1.out; omega⟩, ⟨by (with_reducible repeat (first | apply Kd.R_alloc | apply Kd.R_drewN | apply Kd.R_drew)); exact HO317.out⟩, ⟨by (with_reducible repeat (first | apply Kd.R_alloc | apply Kd.R_drewN | apply Kd.R_drew)); exact Kd.R_mono HO_14.out (fun _ hk => trivial)⟩, ⟨by repeat (first | (with_reducible first | exact HB.out | apply below_alloc | apply pw_below_drewN | apply below_drew1 | refine below_set ?_ GE314.out) | exact HB.out)⟩⟩
      ·
       rw [if_neg c8] at H
       exact absurd H (by simp)
     ·
      rw [if_neg c7] at H
      exact absurd H (by simp)
    ·
     rw [if_neg c6] at H
     exact absurd H (by simp)
   ·
    rw [if_neg c5] at H
    have c5b0 : decide (x16_1 < (t309.length : Int)) = false := decide_eq_false c5
    clear c5
    simp only [Option.some.injEq, Prod.mk.injEq] at H
    obtain ⟨rfl, rfl⟩ := H
    go_wp2
    go_ret2
    exact ⟨_, by first | rfl | (simp [errW_none, errW_some] <;> rfl) | (simp [*, errW_none, errW_some] <;> rfl), by (with_reducible repeat (first | apply Kd.R_alloc | apply Kd.R_drewN | apply Kd.R_drew)); exact HO_6.out, by repeat (first | (with_reducible first | exact HB.out | apply below_alloc | apply pw_below_drewN | apply below_drew1) | exact HB.out)⟩
def index_Text.f (k : Nat) (l0 : List (S35)) : Option (ByteArray × Int) := (index_Runes.f k l0).bind fun bt318 => (if bt318.2 = 0 then ((runes_Encode.f bt318.1).bind fun bt322 => (some (bt322.1, bt322.2))) else (some ((⟨#[]⟩ : ByteArray), bt318.2)))
set_option maxHeartbeats 8000000 in
set_option maxRecDepth 100000 in
theorem index_Text.calls (k : Nat) (A0 : Option Addr) (c0 : Nat) (l0 : List (S35)) (r1 : ByteArray) (r2 : Int) (w : World) (hr0 : Kd.C k35 w A0 l0.length l0) (hc0 : l0.length ≤ c0) (h : index_Text.f k l0 = some (r1, r2)) :
  Calls Tryz.prog 78 #[.slice A0 l0.length c0] w fun e w' => e = .returned (.tuple #[.string r1, .int .i64 r2]) ∧ Below w.heap.size w w' := by
 have HR0 := Aside0.mk hr0
 have HC0 := Aside0.mk hc0
 clear hr0 hc0
 have HB := Aside0.mk (Below.refl w.heap.size w)
 have H : ((index_Runes.f k l0).bind fun bt318 => (if bt318.2 = 0 then ((runes_Encode.f bt318.1).bind fun bt322 => (some (bt322.1, bt322.2))) else (some ((⟨#[]⟩ : ByteArray), bt318.2)))) = some (r1, r2) := h
 clear h
 replace H := Option.bind_eq_some_iff.mp H
 obtain ⟨⟨t318, t319⟩, A20, H⟩ := H
 replace H : (if t319 = 0 then ((runes_Encode.f t318).bind fun bt322 => (some (bt322.1, bt322.2))) else (some ((⟨#[]⟩ : ByteArray), t319))) = some (r1, r2) := H
 have A2 := Aside0.mk A20
 clear A20
 by_cases c3 : t319 = 0
 ·
  rw [if_pos c3] at H
  have c3b0 : (t319 == 0) = true := beq_iff_eq.mpr c3
  have c3b1 : (t319 != 0) = false := bne_eq_false_iff_eq.mpr c3
  clear c3
  replace H := Option.bind_eq_some_iff.mp H
  obtain ⟨⟨t322, t323⟩, A40, H⟩ := H
  replace H : (some (t322, t323)) = some (r1, r2) := H
  have A4 := Aside0.mk A40
  clear A40
  simp only [Option.some.injEq, Prod.mk.injEq] at H
  obtain ⟨rfl, rfl⟩ := H
  go_enter Tryz.func78, Tryz.ntmps78
  go_wp2_with (first | ((with_reducible refine gate_callee (f := 79) rfl ?_); refine goesL_ (some 8) rfl rfl Tryz.func79 (by kernel_rfl) rfl #[.slice A0 l0.length c0] rfl (by (try simp only [List.map_toArray, List.map_cons, List.map_nil]); first | done | rfl | (simp only [List.length_drop, List.length_take]; rfl)) ?_; (with_reducible refine (index_Runes.calls k _ _ l0 t318 t319 _ ?side1 ?side2 A2.out).mono ?_); (case side1 => repeat (first | exact HR0.out | (with_reducible refine Kd.C_alloc ?_ _) | (with_reducible refine Kd.C_drewN ?_ _) | (with_reducible refine Kd.C_drew ?_))); (case side2 => exact HC0.out); rintro e w5 ⟨v320, rfl, ho0, hb⟩; refine ⟨_, rfl, ?_⟩; have n0_ := Aside0.mk (Kd.R_lower ho0 (below_size (by repeat (first | (with_reducible first | exact HB.out | apply below_alloc | apply pw_below_drewN | apply below_drew1) | exact HB.out)))); have n1_ := Aside0.mk (below_step (by repeat (first | (with_reducible first | exact HB.out | apply below_alloc | apply pw_below_drewN | apply below_drew1) | exact HB.out)) hb); clear HB; have HO321 := n0_; have HB := n1_; clear n0_ n1_; (try clear hb); (try clear hb2); (try clear hk); (try clear hi); (try clear ho0); obtain ⟨Ao6, co6, eo6⟩ := Kd.R_slice HO321.out; subst eo6) | ((with_reducible refine gate_callee (f := 115) rfl ?_); refine goesL_ (some 15) rfl rfl Tryz.func115 (by kernel_rfl) rfl #[.slice Ao6 t318.length co6] rfl (by (try simp only [List.map_toArray, List.map_cons, List.map_nil]); first | done | rfl | (simp only [List.length_drop, List.length_take]; rfl)) ?_; (with_reducible refine (runes_Encode.calls _ _ t318 t322 t323 _ ?side1 ?side2 A4.out).mono ?_); (case side1 => repeat (first | exact (Kd.R_reads' HO321.out).2.2 | (with_reducible refine Kd.C_alloc ?_ _) | (with_reducible refine Kd.C_drewN ?_ _) | (with_reducible refine Kd.C_drew ?_))); (case side2 => exact (Kd.R_reads' HO321.out).2.1); rintro e w7 ⟨rfl, hb⟩; refine ⟨_, rfl, ?_⟩; have n0_ := Aside0.mk (Kd.R_below (by (with_reducible repeat (first | apply Kd.R_alloc | apply Kd.R_drewN | apply Kd.R_drew)); exact HO321.out) hb); have n1_ := Aside0.mk (below_step (by repeat (first | (with_reducible first | exact HB.out | apply below_alloc | apply pw_below_drewN | apply below_drew1) | exact HB.out)) hb); clear HO321; clear HB; have HO321 := n0_; have HB := n1_; clear n0_ n1_; (try clear hb); (try clear hb2); (try clear hk); (try clear hi)))
  go_ret2
  exact ⟨by first | rfl | (simp [errW_none, errW_some] <;> rfl) | (simp [*, errW_none, errW_some] <;> rfl), by repeat (first | (with_reducible first | exact HB.out | apply below_alloc | apply pw_below_drewN | apply below_drew1) | exact HB.out)⟩
 ·
  rw [if_neg c3] at H
  have c3b0 : (t319 == 0) = false := beq_eq_false_iff_ne.mpr c3
  have c3b1 : (t319 != 0) = true := bne_iff_ne.mpr c3
  simp only [Option.some.injEq, Prod.mk.injEq] at H
  obtain ⟨rfl, rfl⟩ := H
  go_enter Tryz.func78, Tryz.ntmps78
  go_wp2_with (first | ((with_reducible refine gate_callee (f := 79) rfl ?_); refine goesL_ (some 8) rfl rfl Tryz.func79 (by kernel_rfl) rfl #[.slice A0 l0.length c0] rfl (by (try simp only [List.map_toArray, List.map_cons, List.map_nil]); first | done | rfl | (simp only [List.length_drop, List.length_take]; rfl)) ?_; (with_reducible refine (index_Runes.calls k _ _ l0 t318 t319 _ ?side1 ?side2 A2.out).mono ?_); (case side1 => repeat (first | exact HR0.out | (with_reducible refine Kd.C_alloc ?_ _) | (with_reducible refine Kd.C_drewN ?_ _) | (with_reducible refine Kd.C_drew ?_))); (case side2 => exact HC0.out); rintro e w8 ⟨v320, rfl, ho0, hb⟩; refine ⟨_, rfl, ?_⟩; have n0_ := Aside0.mk (Kd.R_lower ho0 (below_size (by repeat (first | (with_reducible first | exact HB.out | apply below_alloc | apply pw_below_drewN | apply below_drew1) | exact HB.out)))); have n1_ := Aside0.mk (below_step (by repeat (first | (with_reducible first | exact HB.out | apply below_alloc | apply pw_below_drewN | apply below_drew1) | exact HB.out)) hb); clear HB; have HO321 := n0_; have HB := n1_; clear n0_ n1_; (try clear hb); (try clear hb2); (try clear hk); (try clear hi); (try clear ho0)))
  go_ret2
  exact ⟨by first | rfl | (simp [errW_none, errW_some] <;> rfl) | (simp [*, errW_none, errW_some] <;> rfl), by repeat (first | (with_reducible first | exact HB.out | apply below_alloc | apply pw_below_drewN | apply below_drew1) | exact HB.out)⟩
def redpencillaw12_texts.f (k : Nat) (l0 : List (S35)) (a1 : ByteArray) (a2 : Int) : Option (Bool) := (index_Text.f k l0).bind fun bt324 => (if bt324.1.toList = a1.toList then (some (bt324.2 == a2)) else (some false))
set_option maxHeartbeats 8000000 in
set_option maxRecDepth 100000 in
theorem redpencillaw12_texts.calls (k : Nat) (A0 : Option Addr) (c0 : Nat) (l0 : List (S35)) (a1 : ByteArray) (a2 : Int) (r : Bool) (w : World) (hr0 : Kd.C k35 w A0 l0.length l0) (hc0 : l0.length ≤ c0) (h : redpencillaw12_texts.f k l0 a1 a2 = some r) :
  Calls Tryz.prog 35 #[.slice A0 l0.length c0, .string a1, .int .i64 a2] w fun e w' => e = .returned (.bool r) ∧ Below w.heap.size w w' := by
 have HR0 := Aside0.mk hr0
 have HC0 := Aside0.mk hc0
 clear hr0 hc0
 have HB := Aside0.mk (Below.refl w.heap.size w)
 have H : ((index_Text.f k l0).bind fun bt324 => (if bt324.1.toList = a1.toList then (some (bt324.2 == a2)) else (some false))) = some r := h
 clear h
 replace H := Option.bind_eq_some_iff.mp H
 obtain ⟨⟨t324, t325⟩, A40, H⟩ := H
 replace H : (if t324.toList = a1.toList then (some (t325 == a2)) else (some false)) = some r := H
 have A4 := Aside0.mk A40
 clear A40
 by_cases c5 : t324.toList = a1.toList
 ·
  rw [if_pos c5] at H
  have c5b0 : (t324.toList == a1.toList) = true := beq_iff_eq.mpr c5
  have c5b1 : (t324.toList != a1.toList) = false := bne_eq_false_iff_eq.mpr c5
  clear c5
  obtain rfl := Option.some.inj H
  go_enter Tryz.func35, Tryz.ntmps35
  go_wp2_with (first | ((with_reducible refine gate_callee (f := 78) rfl ?_); refine goesL_ (some 11) rfl rfl Tryz.func78 (by kernel_rfl) rfl #[.slice A0 l0.length c0] rfl (by (try simp only [List.map_toArray, List.map_cons, List.map_nil]); first | done | rfl | (simp only [List.length_drop, List.length_take]; rfl)) ?_; (with_reducible refine (index_Text.calls k _ _ l0 t324 t325 _ ?side1 ?side2 A4.out).mono ?_); (case side1 => repeat (first | exact HR0.out | (with_reducible refine Kd.C_alloc ?_ _) | (with_reducible refine Kd.C_drewN ?_ _) | (with_reducible refine Kd.C_drew ?_))); (case side2 => exact HC0.out); rintro e w6 ⟨rfl, hb⟩; refine ⟨_, rfl, ?_⟩; have n0_ := Aside0.mk (below_step (by repeat (first | (with_reducible first | exact HB.out | apply below_alloc | apply pw_below_drewN | apply below_drew1) | exact HB.out)) hb); clear HB; have HB := n0_; clear n0_; (try clear hb); (try clear hb2); (try clear hk); (try clear hi)))
  go_ret
  exact ⟨by first | rfl | (simp [errW_none, errW_some] <;> rfl) | (simp [*, errW_none, errW_some] <;> rfl), by repeat (first | (with_reducible first | exact HB.out | apply below_alloc | apply pw_below_drewN | apply below_drew1) | exact HB.out)⟩
 ·
  rw [if_neg c5] at H
  have c5b0 : (t324.toList == a1.toList) = false := beq_eq_false_iff_ne.mpr c5
  have c5b1 : (t324.toList != a1.toList) = true := bne_iff_ne.mpr c5
  obtain rfl := Option.some.inj H
  go_enter Tryz.func35, Tryz.ntmps35
  go_wp2_with (first | ((with_reducible refine gate_callee (f := 78) rfl ?_); refine goesL_ (some 11) rfl rfl Tryz.func78 (by kernel_rfl) rfl #[.slice A0 l0.length c0] rfl (by (try simp only [List.map_toArray, List.map_cons, List.map_nil]); first | done | rfl | (simp only [List.length_drop, List.length_take]; rfl)) ?_; (with_reducible refine (index_Text.calls k _ _ l0 t324 t325 _ ?side1 ?side2 A4.out).mono ?_); (case side1 => repeat (first | exact HR0.out | (with_reducible refine Kd.C_alloc ?_ _) | (with_reducible refine Kd.C_drewN ?_ _) | (with_reducible refine Kd.C_drew ?_))); (case side2 => exact HC0.out); rintro e w7 ⟨rfl, hb⟩; refine ⟨_, rfl, ?_⟩; have n0_ := Aside0.mk (below_step (by repeat (first | (with_reducible first | exact HB.out | apply below_alloc | apply pw_below_drewN | apply below_drew1) | exact HB.out)) hb); clear HB; have HB := n0_; clear n0_; (try clear hb); (try clear hb2); (try clear hk); (try clear hi)))
  go_ret
  exact ⟨by first | rfl | (simp [errW_none, errW_some] <;> rfl) | (simp [*, errW_none, errW_some] <;> rfl), by repeat (first | (with_reducible first | exact HB.out | apply below_alloc | apply pw_below_drewN | apply below_drew1) | exact HB.out)⟩
def index_Len.f (l0 : List (S35)) : Option (Int × Int) := (index_visible.f l0).bind fun bt326 => (some ((bt326.1.length : Int), bt326.2))
set_option maxHeartbeats 8000000 in
set_option maxRecDepth 100000 in
theorem index_Len.calls (A0 : Option Addr) (c0 : Nat) (l0 : List (S35)) (r1 : Int) (r2 : Int) (w : World) (hr0 : Kd.C k35 w A0 l0.length l0) (hc0 : l0.length ≤ c0) (h : index_Len.f l0 = some (r1, r2)) :
  Calls Tryz.prog 81 #[.slice A0 l0.length c0] w fun e w' => e = .returned (.tuple #[.int .i64 r1, .int .i64 r2]) ∧ Below w.heap.size w w' := by
 have HR0 := Aside0.mk hr0
 have HC0 := Aside0.mk hc0
 clear hr0 hc0
 have HB := Aside0.mk (Below.refl w.heap.size w)
 have H : ((index_visible.f l0).bind fun bt326 => (some ((bt326.1.length : Int), bt326.2))) = some (r1, r2) := h
 clear h
 replace H := Option.bind_eq_some_iff.mp H
 obtain ⟨⟨t326, t327⟩, A20, H⟩ := H
 replace H : (some ((t326.length : Int), t327)) = some (r1, r2) := H
 have A2 := Aside0.mk A20
 clear A20
 simp only [Option.some.injEq, Prod.mk.injEq] at H
 obtain ⟨rfl, rfl⟩ := H
 go_enter Tryz.func81, Tryz.ntmps81
 go_wp2_with (first | ((with_reducible refine gate_callee (f := 98) rfl ?_); refine goesL_ (some 8) rfl rfl Tryz.func98 (by kernel_rfl) rfl #[.slice A0 l0.length c0] rfl (by (try simp only [List.map_toArray, List.map_cons, List.map_nil]); first | done | rfl | (simp only [List.length_drop, List.length_take]; rfl)) ?_; (with_reducible refine (index_visible.calls _ _ l0 t326 t327 _ ?side1 ?side2 A2.out).mono ?_); (case side1 => repeat (first | exact HR0.out | (with_reducible refine Kd.C_alloc ?_ _) | (with_reducible refine Kd.C_drewN ?_ _) | (with_reducible refine Kd.C_drew ?_))); (case side2 => exact HC0.out); rintro e w3 ⟨v328, rfl, ho0, hb⟩; refine ⟨_, rfl, ?_⟩; have n0_ := Aside0.mk (Kd.R_lower ho0 (below_size (by repeat (first | (with_reducible first | exact HB.out | apply below_alloc | apply pw_below_drewN | apply below_drew1) | exact HB.out)))); have n1_ := Aside0.mk (below_step (by repeat (first | (with_reducible first | exact HB.out | apply below_alloc | apply pw_below_drewN | apply below_drew1) | exact HB.out)) hb); clear HB; have HO329 := n0_; have HB := n1_; clear n0_ n1_; (try clear hb); (try clear hb2); (try clear hk); (try clear hi); (try clear ho0); obtain ⟨Ao4, co4, eo4⟩ := Kd.R_slice HO329.out; subst eo4))
 go_ret2
 exact ⟨by first | rfl | (simp [errW_none, errW_some] <;> rfl) | (simp [*, errW_none, errW_some] <;> rfl), by repeat (first | (with_reducible first | exact HB.out | apply below_alloc | apply pw_below_drewN | apply below_drew1) | exact HB.out)⟩
def redpencillaw12_has.f (l0 : List (S35)) (a1 : Int) (a2 : Int) : Option (Bool) := (index_Len.f l0).bind fun bt330 => (if bt330.1 = a1 then (some (bt330.2 == a2)) else (some false))
set_option maxHeartbeats 8000000 in
set_option maxRecDepth 100000 in
theorem redpencillaw12_has.calls (A0 : Option Addr) (c0 : Nat) (l0 : List (S35)) (a1 : Int) (a2 : Int) (r : Bool) (w : World) (hr0 : Kd.C k35 w A0 l0.length l0) (hc0 : l0.length ≤ c0) (h : redpencillaw12_has.f l0 a1 a2 = some r) :
  Calls Tryz.prog 37 #[.slice A0 l0.length c0, .int .i64 a1, .int .i64 a2] w fun e w' => e = .returned (.bool r) ∧ Below w.heap.size w w' := by
 have HR0 := Aside0.mk hr0
 have HC0 := Aside0.mk hc0
 clear hr0 hc0
 have HB := Aside0.mk (Below.refl w.heap.size w)
 have H : ((index_Len.f l0).bind fun bt330 => (if bt330.1 = a1 then (some (bt330.2 == a2)) else (some false))) = some r := h
 clear h
 replace H := Option.bind_eq_some_iff.mp H
 obtain ⟨⟨t330, t331⟩, A40, H⟩ := H
 replace H : (if t330 = a1 then (some (t331 == a2)) else (some false)) = some r := H
 have A4 := Aside0.mk A40
 clear A40
 by_cases c5 : t330 = a1
 ·
  rw [if_pos c5] at H
  have c5b0 : (t330 == a1) = true := beq_iff_eq.mpr c5
  have c5b1 : (t330 != a1) = false := bne_eq_false_iff_eq.mpr c5
  clear c5
  obtain rfl := Option.some.inj H
  go_enter Tryz.func37, Tryz.ntmps37
  go_wp2_with (first | ((with_reducible refine gate_callee (f := 81) rfl ?_); refine goesL_ (some 11) rfl rfl Tryz.func81 (by kernel_rfl) rfl #[.slice A0 l0.length c0] rfl (by (try simp only [List.map_toArray, List.map_cons, List.map_nil]); first | done | rfl | (simp only [List.length_drop, List.length_take]; rfl)) ?_; (with_reducible refine (index_Len.calls _ _ l0 t330 t331 _ ?side1 ?side2 A4.out).mono ?_); (case side1 => repeat (first | exact HR0.out | (with_reducible refine Kd.C_alloc ?_ _) | (with_reducible refine Kd.C_drewN ?_ _) | (with_reducible refine Kd.C_drew ?_))); (case side2 => exact HC0.out); rintro e w6 ⟨rfl, hb⟩; refine ⟨_, rfl, ?_⟩; have n0_ := Aside0.mk (below_step (by repeat (first | (with_reducible first | exact HB.out | apply below_alloc | apply pw_below_drewN | apply below_drew1) | exact HB.out)) hb); clear HB; have HB := n0_; clear n0_; (try clear hb); (try clear hb2); (try clear hk); (try clear hi)))
  go_ret
  exact ⟨by first | rfl | (simp [errW_none, errW_some] <;> rfl) | (simp [*, errW_none, errW_some] <;> rfl), by repeat (first | (with_reducible first | exact HB.out | apply below_alloc | apply pw_below_drewN | apply below_drew1) | exact HB.out)⟩
 ·
  rw [if_neg c5] at H
  have c5b0 : (t330 == a1) = false := beq_eq_false_iff_ne.mpr c5
  have c5b1 : (t330 != a1) = true := bne_iff_ne.mpr c5
  obtain rfl := Option.some.inj H
  go_enter Tryz.func37, Tryz.ntmps37
  go_wp2_with (first | ((with_reducible refine gate_callee (f := 81) rfl ?_); refine goesL_ (some 11) rfl rfl Tryz.func81 (by kernel_rfl) rfl #[.slice A0 l0.length c0] rfl (by (try simp only [List.map_toArray, List.map_cons, List.map_nil]); first | done | rfl | (simp only [List.length_drop, List.length_take]; rfl)) ?_; (with_reducible refine (index_Len.calls _ _ l0 t330 t331 _ ?side1 ?side2 A4.out).mono ?_); (case side1 => repeat (first | exact HR0.out | (with_reducible refine Kd.C_alloc ?_ _) | (with_reducible refine Kd.C_drewN ?_ _) | (with_reducible refine Kd.C_drew ?_))); (case side2 => exact HC0.out); rintro e w7 ⟨rfl, hb⟩; refine ⟨_, rfl, ?_⟩; have n0_ := Aside0.mk (below_step (by repeat (first | (with_reducible first | exact HB.out | apply below_alloc | apply pw_below_drewN | apply below_drew1) | exact HB.out)) hb); clear HB; have HB := n0_; clear n0_; (try clear hb); (try clear hb2); (try clear hk); (try clear hi)))
  go_ret
  exact ⟨by first | rfl | (simp [errW_none, errW_some] <;> rfl) | (simp [*, errW_none, errW_some] <;> rfl), by repeat (first | (with_reducible first | exact HB.out | apply below_alloc | apply pw_below_drewN | apply below_drew1) | exact HB.out)⟩
def index_first.l0 : Nat → List Int → Int → Int → Option (Int)
 | 0, _, _, _ => none
 | k + 1, x5, x6, x7 => if x7 < x6 then (if 0 ≤ x7 then (if x7 < (x5.length : Int) then (if (rd x5 x7) = 0 then (index_first.l0 k x5 x6 (wrap64 (x7 + 1))) else (some (rd x5 x7))) else (none)) else (none)) else (some 0)
def index_first.f (k : Nat) (l0 : List Int) : Option (Int) := index_first.l0 k l0 (l0.length : Int) 0
set_option maxHeartbeats 8000000 in
set_option maxRecDepth 100000 in
theorem index_first.calls (k : Nat) (A0 : Option Addr) (c0 : Nat) (l0 : List Int) (r : Int) (w : World) (hr0 : Kd.C (Kd.int .i64) w A0 l0.length l0) (hc0 : l0.length ≤ c0) (h : index_first.f k l0 = some r) :
  Calls Tryz.prog 99 #[.slice A0 l0.length c0] w fun e w' => e = .returned (.int .i64 r) ∧ Drawn0 w w' := by
 have HR0 := Aside0.mk hr0
 have HC0 := Aside0.mk hc0
 clear hr0 hc0
 have H : (index_first.l0 k l0 (l0.length : Int) 0) = some r := h
 clear h
 have H' := Aside0.mk H
 clear H
 go_enter Tryz.func99, Tryz.ntmps99
 go_wp2
 go_loopg [7] k (fun kq v7 w' => ∃ (x7_1 : Int), v7 = .int .i64 x7_1 ∧ Aside0 (index_first.l0 kq l0 (l0.length : Int) x7_1 = some r) ∧ Aside0 (kq ≤ k) ∧ Drawn0 w w')
 case atStart => exact ⟨(0), (by first | rfl | (simp; done) | (simp [*]; done)), H', ⟨Nat.le_refl _⟩, by repeat (first | exact Drawn0.refl _ | apply Drawn0.step)⟩
 case round =>
  clear H'
  obtain ⟨x7_1, rfl, HA, HK1, ⟨m1, rfl⟩⟩ := hrel
  cases gk with
  | zero => exact absurd HA.out (by simp [index_first.l0])
  | succ k1 =>
   have H := HA.out
   clear HA
   simp only [index_first.l0] at H
   by_cases c2 : x7_1 < (l0.length : Int)
   ·
    rw [if_pos c2] at H
    have c2b0 : decide (x7_1 < (l0.length : Int)) = true := decide_eq_true c2
    clear c2
    by_cases c3 : 0 ≤ x7_1
    ·
     rw [if_pos c3] at H
     have c3b0 : decide (0 ≤ x7_1) = true := decide_eq_true c3
     clear c3
     by_cases c4 : x7_1 < (l0.length : Int)
     ·
      rw [if_pos c4] at H
      have c4b0 : decide (x7_1 < (l0.length : Int)) = true := decide_eq_true c4
      clear c4
      by_cases c5 : (rd l0 x7_1) = 0
      ·
       rw [if_pos c5] at H
       have c5b0 : ((rd l0 x7_1) == 0) = true := beq_iff_eq.mpr c5
       have c5b1 : ((rd l0 x7_1) != 0) = false := bne_eq_false_iff_eq.mpr c5
       clear c5
       have H' := Aside0.mk H
       clear H
       have p332 : 0 ≤ (x7_1 : Int) := of_decide_eq_true (by first | (with_reducible assumption) | assumption)
       have q332 : x7_1 < (l0.length : Int) := of_decide_eq_true (by first | (with_reducible assumption) | assumption)
       obtain ⟨ad332, e332, hx332_0⟩ := Kd.at_int HR0.out x7_1 p332 q332
       cases e332
       replace p332 := eq_true p332
       replace q332 := eq_true q332
       go_wp2
       go_roundg k1
       case measure => have := HK1.out; omega
       case rel => exact ⟨(wrap64 (x7_1 + 1)), (by first | rfl | (simp; done) | (simp [*]; done)), H', ⟨by have := HK1.out; omega⟩, by repeat (first | exact Drawn0.refl _ | apply Drawn0.step)⟩
      ·
       rw [if_neg c5] at H
       have c5b0 : ((rd l0 x7_1) == 0) = false := beq_eq_false_iff_ne.mpr c5
       have c5b1 : ((rd l0 x7_1) != 0) = true := bne_iff_ne.mpr c5
       obtain rfl := Option.some.inj H
       have p332 : 0 ≤ (x7_1 : Int) := of_decide_eq_true (by first | (with_reducible assumption) | assumption)
       have q332 : x7_1 < (l0.length : Int) := of_decide_eq_true (by first | (with_reducible assumption) | assumption)
       obtain ⟨ad332, e332, hx332_0⟩ := Kd.at_int HR0.out x7_1 p332 q332
       cases e332
       replace p332 := eq_true p332
       replace q332 := eq_true q332
       go_wp2
       go_ret
       exact ⟨by first | rfl | (simp; done) | (simp [*]; done), by repeat (first | exact Drawn0.refl _ | apply Drawn0.step)⟩
     ·
      rw [if_neg c4] at H
      exact absurd H (by simp)
    ·
     rw [if_neg c3] at H
     exact absurd H (by simp)
   ·
    rw [if_neg c2] at H
    have c2b0 : decide (x7_1 < (l0.length : Int)) = false := decide_eq_false c2
    clear c2
    obtain rfl := Option.some.inj H
    go_wp2
    go_ret
    exact ⟨by first | rfl | (simp; done) | (simp [*]; done), by repeat (first | exact Drawn0.refl _ | apply Drawn0.step)⟩
def index_when.f (a0 : Bool) (a1 : Int) : Option (Int) := if a0 = true then (some a1) else (some 0)
set_option maxHeartbeats 8000000 in
set_option maxRecDepth 100000 in
theorem index_when.calls (a0 : Bool) (a1 : Int) (r : Int) (w : World) (h : index_when.f a0 a1 = some r) :
  Calls Tryz.prog 100 #[.bool a0, .int .i64 a1] w fun e w' => e = .returned (.int .i64 r) ∧ Drawn0 w w' := by
 have H : (if a0 = true then (some a1) else (some 0)) = some r := h
 clear h
 by_cases c3 : a0 = true
 ·
  subst c3
  have H1 : (some a1) = some r := by rw [if_pos rfl] at H; exact H
  clear H
  have H := H1
  clear H1
  obtain rfl := Option.some.inj H
  go_enter Tryz.func100, Tryz.ntmps100
  go_wp2
  go_ret
  exact ⟨by first | rfl | (simp; done) | (simp [*]; done), by repeat (first | exact Drawn0.refl _ | apply Drawn0.step)⟩
 ·
  replace c3 := Bool.eq_false_iff.mpr c3
  subst c3
  have H1 : (some 0) = some r := by rw [if_neg (show ¬ (false = true) by decide)] at H; exact H
  clear H
  have H := H1
  clear H1
  obtain rfl := Option.some.inj H
  go_enter Tryz.func100, Tryz.ntmps100
  go_wp2
  go_ret
  exact ⟨by first | rfl | (simp; done) | (simp [*]; done), by repeat (first | exact Drawn0.refl _ | apply Drawn0.step)⟩
def index_At.f (k : Nat) (l0 : List (S35)) (a1 : Int) : Option (Int × Int × Int × Int × Int × Int × Int) := (index_visible.f l0).bind fun bt334 => (if a1 < 0 then ((index_when.f true 3).bind fun t338 => ((index_first.f k (([bt334.2, t338] : List Int))).bind fun t342 => (if t342 = 0 then (if 0 ≤ a1 then (if a1 < (bt334.1.length : Int) then (some ((rd_T35 bt334.1 a1).f0.f0, (rd_T35 bt334.1 a1).f0.f1, (rd_T35 bt334.1 a1).f1.f0, (rd_T35 bt334.1 a1).f1.f1, (rd_T35 bt334.1 a1).f2, (rd_T35 bt334.1 a1).f3, 0)) else (none)) else (none)) else (some (0, 0, 0, 0, 0, 0, t342))))) else ((index_when.f (decide (a1 ≥ (bt334.1.length : Int))) 3).bind fun t344 => ((index_first.f k (([bt334.2, t344] : List Int))).bind fun t348 => (if t348 = 0 then (if 0 ≤ a1 then (if a1 < (bt334.1.length : Int) then (some ((rd_T35 bt334.1 a1).f0.f0, (rd_T35 bt334.1 a1).f0.f1, (rd_T35 bt334.1 a1).f1.f0, (rd_T35 bt334.1 a1).f1.f1, (rd_T35 bt334.1 a1).f2, (rd_T35 bt334.1 a1).f3, 0)) else (none)) else (none)) else (some (0, 0, 0, 0, 0, 0, t348))))))
set_option maxHeartbeats 8000000 in
set_option maxRecDepth 100000 in
theorem index_At.calls (k : Nat) (A0 : Option Addr) (c0 : Nat) (l0 : List (S35)) (a1 : Int) (r1 : Int) (r2 : Int) (r3 : Int) (r4 : Int) (r5 : Int) (r6 : Int) (r7 : Int) (w : World) (hr0 : Kd.C k35 w A0 l0.length l0) (hc0 : l0.length ≤ c0) (h : index_At.f k l0 a1 = some (r1, r2, r3, r4, r5, r6, r7)) :
  Calls Tryz.prog 57 #[.slice A0 l0.length c0, .int .i64 a1] w fun e w' => e = .returned (.tuple #[.agg #[.int .i64 r1, .int .i64 r2, .int .i64 r3, .int .i64 r4, .int .i64 r5, .int .i32 r6], .int .i64 r7]) ∧ Below w.heap.size w w' := by
 have hu35 := Tryz.underlying35
 have HR0 := Aside0.mk hr0
 have HC0 := Aside0.mk hc0
 clear hr0 hc0
 have HB := Aside0.mk (Below.refl w.heap.size w)
 have H : ((index_visible.f l0).bind fun bt334 => (if a1 < 0 then ((index_when.f true 3).bind fun t338 => ((index_first.f k (([bt334.2, t338] : List Int))).bind fun t342 => (if t342 = 0 then (if 0 ≤ a1 then (if a1 < (bt334.1.length : Int) then (some ((rd_T35 bt334.1 a1).f0.f0, (rd_T35 bt334.1 a1).f0.f1, (rd_T35 bt334.1 a1).f1.f0, (rd_T35 bt334.1 a1).f1.f1, (rd_T35 bt334.1 a1).f2, (rd_T35 bt334.1 a1).f3, 0)) else (none)) else (none)) else (some (0, 0, 0, 0, 0, 0, t342))))) else ((index_when.f (decide (a1 ≥ (bt334.1.length : Int))) 3).bind fun t344 => ((index_first.f k (([bt334.2, t344] : List Int))).bind fun t348 => (if t348 = 0 then (if 0 ≤ a1 then (if a1 < (bt334.1.length : Int) then (some ((rd_T35 bt334.1 a1).f0.f0, (rd_T35 bt334.1 a1).f0.f1, (rd_T35 bt334.1 a1).f1.f0, (rd_T35 bt334.1 a1).f1.f1, (rd_T35 bt334.1 a1).f2, (rd_T35 bt334.1 a1).f3, 0)) else (none)) else (none)) else (some (0, 0, 0, 0, 0, 0, t348))))))) = some (r1, r2, r3, r4, r5, r6, r7) := h
 clear h
 replace H := Option.bind_eq_some_iff.mp H
 obtain ⟨⟨t334, t335⟩, A30, H⟩ := H
 replace H : (if a1 < 0 then ((index_when.f true 3).bind fun t338 => ((index_first.f k (([t335, t338] : List Int))).bind fun t342 => (if t342 = 0 then (if 0 ≤ a1 then (if a1 < (t334.length : Int) then (some ((rd_T35 t334 a1).f0.f0, (rd_T35 t334 a1).f0.f1, (rd_T35 t334 a1).f1.f0, (rd_T35 t334 a1).f1.f1, (rd_T35 t334 a1).f2, (rd_T35 t334 a1).f3, 0)) else (none)) else (none)) else (some (0, 0, 0, 0, 0, 0, t342))))) else ((index_when.f (decide (a1 ≥ (t334.length : Int))) 3).bind fun t344 => ((index_first.f k (([t335, t344] : List Int))).bind fun t348 => (if t348 = 0 then (if 0 ≤ a1 then (if a1 < (t334.length : Int) then (some ((rd_T35 t334 a1).f0.f0, (rd_T35 t334 a1).f0.f1, (rd_T35 t334 a1).f1.f0, (rd_T35 t334 a1).f1.f1, (rd_T35 t334 a1).f2, (rd_T35 t334 a1).f3, 0)) else (none)) else (none)) else (some (0, 0, 0, 0, 0, 0, t348)))))) = some (r1, r2, r3, r4, r5, r6, r7) := H
 have A3 := Aside0.mk A30
 clear A30
 by_cases c4 : a1 < 0
 ·
  rw [if_pos c4] at H
  have c4b0 : decide (a1 < 0) = true := decide_eq_true c4
  clear c4
  replace H := Option.bind_eq_some_iff.mp H
  obtain ⟨t338, A50, H⟩ := H
  replace H : ((index_first.f k (([t335, t338] : List Int))).bind fun t342 => (if t342 = 0 then (if 0 ≤ a1 then (if a1 < (t334.length : Int) then (some ((rd_T35 t334 a1).f0.f0, (rd_T35 t334 a1).f0.f1, (rd_T35 t334 a1).f1.f0, (rd_T35 t334 a1).f1.f1, (rd_T35 t334 a1).f2, (rd_T35 t334 a1).f3, 0)) else (none)) else (none)) else (some (0, 0, 0, 0, 0, 0, t342)))) = some (r1, r2, r3, r4, r5, r6, r7) := H
  have A5 := Aside0.mk A50
  clear A50
  obtain ⟨y339, hy339⟩ : ∃ y_ : List Int, y_ = (([t335, t338] : List Int)) := ⟨_, rfl⟩
  replace H : ((index_first.f k y339).bind fun t342 => (if t342 = 0 then (if 0 ≤ a1 then (if a1 < (t334.length : Int) then (some ((rd_T35 t334 a1).f0.f0, (rd_T35 t334 a1).f0.f1, (rd_T35 t334 a1).f1.f0, (rd_T35 t334 a1).f1.f1, (rd_T35 t334 a1).f2, (rd_T35 t334 a1).f3, 0)) else (none)) else (none)) else (some (0, 0, 0, 0, 0, 0, t342)))) = some (r1, r2, r3, r4, r5, r6, r7) := by first | (rw [hy339]; with_reducible exact H) | (have H2_ := (Option.bind_some _ _).symm.trans H; rw [hy339]; with_reducible exact H2_) | (have H2_ := (Option.bind_some _ _).symm.trans H; with_reducible exact H2_) | with_reducible exact H | (rw [hy339]; exact H) | exact H
  have Ny339 := Aside0.mk hy339
  clear hy339
  replace H := Option.bind_eq_some_iff.mp H
  obtain ⟨t342, A60, H⟩ := H
  replace H : (if t342 = 0 then (if 0 ≤ a1 then (if a1 < (t334.length : Int) then (some ((rd_T35 t334 a1).f0.f0, (rd_T35 t334 a1).f0.f1, (rd_T35 t334 a1).f1.f0, (rd_T35 t334 a1).f1.f1, (rd_T35 t334 a1).f2, (rd_T35 t334 a1).f3, 0)) else (none)) else (none)) else (some (0, 0, 0, 0, 0, 0, t342))) = some (r1, r2, r3, r4, r5, r6, r7) := H
  have A6 := Aside0.mk A60
  clear A60
  by_cases c7 : t342 = 0
  ·
   rw [if_pos c7] at H
   have c7b0 : (t342 == 0) = true := beq_iff_eq.mpr c7
   have c7b1 : (t342 != 0) = false := bne_eq_false_iff_eq.mpr c7
   clear c7
   by_cases c8 : 0 ≤ a1
   ·
    rw [if_pos c8] at H
    have c8b0 : decide (0 ≤ a1) = true := decide_eq_true c8
    clear c8
    by_cases c9 : a1 < (t334.length : Int)
    ·
     rw [if_pos c9] at H
     have c9b0 : decide (a1 < (t334.length : Int)) = true := decide_eq_true c9
     clear c9
     simp only [Option.some.injEq, Prod.mk.injEq] at H
     obtain ⟨rfl, rfl, rfl, rfl, rfl, rfl, rfl⟩ := H
     go_enter Tryz.func57, Tryz.ntmps57
     go_wp2_with (first | ((with_reducible refine gate_dst (N := 4) rfl ?_); (try (refine gate_guard (by rfl) ?_; dsimp only)); refine box_event ?hg (N := 4) ?hd (cs := #[.int .i64 0, .int .i64 0, .int .i64 0, .int .i64 0, .int .i64 0, .int .i32 0]) (t := 35) ?hr ?_; (case hd => rfl); (case hg => rfl); (case hr => first | (go_simp; done) | (go_simp; rfl)); intro gb333 hg w10 hbox hb; have n0_ := Aside0.mk (below_step (by repeat (first | (with_reducible first | exact HB.out | apply below_alloc | apply pw_below_drewN | apply below_drew1) | exact HB.out)) hb); have n1_ := Aside0.mk (hbox); have n2_ := Aside0.mk ((by rw [hg]; exact (below_size (by repeat (first | (with_reducible first | exact HB.out | apply below_alloc | apply pw_below_drewN | apply below_drew1) | exact HB.out))) : w.heap.size ≤ gb333)); have n3_ := Aside0.mk ((by rw [hg]; exact (below_size (by repeat (first | (with_reducible first | exact HB.out | apply below_alloc | apply pw_below_drewN | apply below_drew1) | exact HB.out))) : w.heap.size ≤ gb333)); clear HB; have HB := n0_; have BK333 := n1_; have GW333 := n2_; have GE333 := n3_; clear n0_ n1_ n2_ n3_; clear hb hbox hg) | ((with_reducible refine gate_callee (f := 98) rfl ?_); refine goesL_ (some 10) rfl rfl Tryz.func98 (by kernel_rfl) rfl #[.slice A0 l0.length c0] rfl (by (try simp only [List.map_toArray, List.map_cons, List.map_nil]); first | done | rfl | (simp only [List.length_drop, List.length_take]; rfl)) ?_; (with_reducible refine (index_visible.calls _ _ l0 t334 t335 _ ?side1 ?side2 A3.out).mono ?_); (case side1 => repeat (first | exact (Kd.C_below HR0.out HB.out) | (with_reducible refine Kd.C_alloc ?_ _) | (with_reducible refine Kd.C_drewN ?_ _) | (with_reducible refine Kd.C_drew ?_))); (case side2 => exact HC0.out); rintro e w11 ⟨v336, rfl, ho0, hb⟩; refine ⟨_, rfl, ?_⟩; have n0_ := Aside0.mk (Kd.R_lower (Kd.R_newB ho0 (g := gb333) (o := .cells #[.int .i64 0, .int .i64 0, .int .i64 0, .int .i64 0, .int .i64 0, .int .i32 0] 35 (0, 0)) (by (with_reducible repeat (first | refine blk_drewN ?_ _ | refine blk_drew ?_ | refine blk_alloc ?_ _)); exact BK333.out)) (below_size (by repeat (first | (with_reducible first | exact HB.out | apply below_alloc | apply pw_below_drewN | apply below_drew1 | refine below_set ?_ GE333.out) | exact HB.out)))); have n1_ := Aside0.mk (blk_below (g := gb333) (o := .cells #[.int .i64 0, .int .i64 0, .int .i64 0, .int .i64 0, .int .i64 0, .int .i32 0] 35 (0, 0)) (by (with_reducible repeat (first | refine blk_drewN ?_ _ | refine blk_drew ?_ | refine blk_alloc ?_ _)); exact BK333.out) hb); have n2_ := Aside0.mk (below_step (by repeat (first | (with_reducible first | exact HB.out | apply below_alloc | apply pw_below_drewN | apply below_drew1 | refine below_set ?_ GE333.out) | exact HB.out)) hb); clear BK333; clear HB; have HO337 := n0_; have BK333 := n1_; have HB := n2_; clear n0_ n1_ n2_; (try clear hb); (try clear hb2); (try clear hk); (try clear hi); (try clear ho0)) | ((with_reducible refine gate_callee (f := 100) rfl ?_); refine goesL_ (some 22) rfl rfl Tryz.func100 (by kernel_rfl) rfl #[.bool true, .int .i64 3] rfl (by (try simp only [List.map_toArray, List.map_cons, List.map_nil]); first | done | rfl | (simp only [List.length_drop, List.length_take]; rfl)) ?_; (with_reducible refine (index_when.calls true 3 t338 _ A5.out).mono ?_); rintro e w' ⟨rfl, ⟨nd, rfl⟩⟩; refine ⟨_, rfl, ?_⟩; (try (rw [drewN_self w11]; generalize hq_ : World.drewN w11 _ = w11; have n0_ : Aside0 (Kd.R k35 35 w11 w.heap.size (fun k_ => k_ ≠ gb333) v336 t334) := ⟨by rw [← hq_]; exact (by (with_reducible repeat (first | apply Kd.R_alloc | apply Kd.R_drewN | apply Kd.R_drew)); exact Kd.R_mono HO337.out (fun _ hk => hk.2))⟩; have n1_ : Aside0 (w11.heap[gb333]? = some (.cells #[.int .i64 0, .int .i64 0, .int .i64 0, .int .i64 0, .int .i64 0, .int .i32 0] 35 (0, 0))) := ⟨by rw [← hq_]; exact (by (with_reducible repeat (first | refine blk_drewN ?_ _ | refine blk_drew ?_ | refine blk_alloc ?_ _)); exact BK333.out)⟩; have n2_ : Aside0 (Below w.heap.size w w11) := ⟨by rw [← hq_]; exact (by repeat (first | (with_reducible first | exact HB.out | apply below_alloc | apply pw_below_drewN | apply below_drew1 | refine below_set ?_ GE333.out) | exact HB.out))⟩; clear HO337 BK333 HB hq_; have HO337 := n0_; have BK333 := n1_; have HB := n2_; clear n0_ n1_ n2_))) | ((with_reducible refine gate_dst (N := 23) rfl ?_); (try (refine gate_guard (by rfl) ?_; dsimp only)); refine Kd.R_lit (Kd.int .i64) _ 29 ?hg (N := 23) ?hd (xs := ([t335, t338] : List Int)) (inner := [.int .i64 t335, .int .i64 t338]) (ok := fun _ => True) (okp := fun _ => True) ?hr ?hp (fun _ hk => hk) trivial (Below.refl _ _) (Nat.le_refl _) (by simp) ?_; (case hd => rfl); (case hg => rfl); (case hr => first | (go_simp; done) | (go_simp; rfl)); (case hp => exact (Reps.one (show Kd.M (Kd.int .i64) _ _ _ t335 [.int .i64 t335] from rfl) (Reps.one (show Kd.M (Kd.int .i64) _ _ _ t338 [.int .i64 t338] from rfl) (Reps.none _ _)))); intro v340 w12 ho13 hb hg_ hnew_; clear hg_ hnew_; (first | rw [← Ny339.out] at ho13 | (simp only [Int.reduceToNat] at ho13; rw [← Ny339.out] at ho13)); have n0_ := Aside0.mk (Kd.R_below (by (with_reducible repeat (first | apply Kd.R_alloc | apply Kd.R_drewN | apply Kd.R_drew)); exact HO337.out) hb); have n1_ := Aside0.mk (Kd.R_lower ho13 (below_size (by repeat (first | (with_reducible first | exact HB.out | apply below_alloc | apply pw_below_drewN | apply below_drew1 | refine below_set ?_ GE333.out) | exact HB.out)))); have n2_ := Aside0.mk (blk_below (g := gb333) (o := .cells #[.int .i64 0, .int .i64 0, .int .i64 0, .int .i64 0, .int .i64 0, .int .i32 0] 35 (0, 0)) (by (with_reducible repeat (first | refine blk_drewN ?_ _ | refine blk_drew ?_ | refine blk_alloc ?_ _)); exact BK333.out) hb); have n3_ := Aside0.mk (below_step (by repeat (first | (with_reducible first | exact HB.out | apply below_alloc | apply pw_below_drewN | apply below_drew1 | refine below_set ?_ GE333.out) | exact HB.out)) hb); clear HO337; clear BK333; clear HB; have HO337 := n0_; have HO341 := n1_; have BK333 := n2_; have HB := n3_; clear n0_ n1_ n2_ n3_; clear hb ho13; obtain ⟨Ao14, co14, eo14⟩ := Kd.R_slice HO341.out; subst eo14) | ((with_reducible refine gate_callee (f := 99) rfl ?_); refine goesL_ (some 24) rfl rfl Tryz.func99 (by kernel_rfl) rfl #[.slice Ao14 y339.length co14] rfl (by (try simp only [List.map_toArray, List.map_cons, List.map_nil]); first | done | rfl | (simp only [List.length_drop, List.length_take]; rfl)) ?_; (with_reducible refine (index_first.calls k _ _ y339 t342 _ ?side1 ?side2 A6.out).mono ?_); (case side1 => repeat (first | exact (Kd.R_reads' HO341.out).2.2 | (with_reducible refine Kd.C_alloc ?_ _) | (with_reducible refine Kd.C_drewN ?_ _) | (with_reducible refine Kd.C_drew ?_))); (case side2 => exact (Kd.R_reads' HO341.out).2.1); rintro e w' ⟨rfl, ⟨nd, rfl⟩⟩; refine ⟨_, rfl, ?_⟩; (try (rw [drewN_self w12]; generalize hq_ : World.drewN w12 _ = w12; have n0_ : Aside0 (Kd.R k35 35 w12 w.heap.size (fun k_ => k_ ≠ gb333) v336 t334) := ⟨by rw [← hq_]; exact (by (with_reducible repeat (first | apply Kd.R_alloc | apply Kd.R_drewN | apply Kd.R_drew)); exact Kd.R_mono HO337.out (fun _ hk => hk.2))⟩; have n1_ : Aside0 (Kd.R (Kd.int .i64) 29 w12 w.heap.size (fun _ => True) (.slice Ao14 y339.length co14) y339) := ⟨by rw [← hq_]; exact (by (with_reducible repeat (first | apply Kd.R_alloc | apply Kd.R_drewN | apply Kd.R_drew)); exact HO341.out)⟩; have n2_ : Aside0 (w12.heap[gb333]? = some (.cells #[.int .i64 0, .int .i64 0, .int .i64 0, .int .i64 0, .int .i64 0, .int .i32 0] 35 (0, 0))) := ⟨by rw [← hq_]; exact (by (with_reducible repeat (first | refine blk_drewN ?_ _ | refine blk_drew ?_ | refine blk_alloc ?_ _)); exact BK333.out)⟩; have n3_ : Aside0 (Below w.heap.size w w12) := ⟨by rw [← hq_]; exact (by repeat (first | (with_reducible first | exact HB.out | apply below_alloc | apply pw_below_drewN | apply below_drew1 | refine below_set ?_ GE333.out) | exact HB.out))⟩; clear HO337 HO341 BK333 HB hq_; have HO337 := n0_; have HO341 := n1_; have BK333 := n2_; have HB := n3_; clear n0_ n1_ n2_ n3_)); obtain ⟨Ao15, co15, eo15⟩ := Kd.R_slice HO337.out; subst eo15; have p343 : 0 ≤ (a1 : Int) := of_decide_eq_true (by first | (with_reducible assumption) | assumption); have q343 : a1 < (t334.length : Int) := of_decide_eq_true (by first | (with_reducible assumption) | assumption); obtain ⟨ad343, e343, hx343_0, hx343_1, hx343_2, hx343_3, hx343_4, hx343_5⟩ := at_T35 (Kd.R_reads' HO337.out).2.2 a1 p343 q343; cases e343; replace p343 := eq_true p343; replace q343 := eq_true q343; have hcz16_0 : w12.cell? ⟨gb333, 0, none⟩ = some (.int .i64 0) := (blk_cell BK333.out 0).trans rfl; have hcz16_1 : w12.cell? ⟨gb333, 1, none⟩ = some (.int .i64 0) := (blk_cell BK333.out 1).trans rfl; have hcz16_2 : w12.cell? ⟨gb333, 2, none⟩ = some (.int .i64 0) := (blk_cell BK333.out 2).trans rfl; have hcz16_3 : w12.cell? ⟨gb333, 3, none⟩ = some (.int .i64 0) := (blk_cell BK333.out 3).trans rfl; have hcz16_4 : w12.cell? ⟨gb333, 4, none⟩ = some (.int .i64 0) := (blk_cell BK333.out 4).trans rfl; have hcz16_5 : w12.cell? ⟨gb333, 5, none⟩ = some (.int .i32 0) := (blk_cell BK333.out 5).trans rfl; have hfz16_0 := blk_frozen BK333.out 0; have hfz16_1 := blk_frozen BK333.out 1; have hfz16_2 := blk_frozen BK333.out 2; have hfz16_3 := blk_frozen BK333.out 3; have hfz16_4 := blk_frozen BK333.out 4; have hfz16_5 := blk_frozen BK333.out 5))
     refine bodyPost_ret (results_ct rfl _ _ gb333 35 #[.int .i64 ((rd_T35 t334 a1).f0.f0), .int .i64 ((rd_T35 t334 a1).f0.f1), .int .i64 ((rd_T35 t334 a1).f1.f0), .int .i64 ((rd_T35 t334 a1).f1.f1), .int .i64 ((rd_T35 t334 a1).f2), .int .i32 ((rd_T35 t334 a1).f3)] (0, 0) _ rfl (by (with_reducible repeat (first | refine blk_drewN ?_ _ | refine blk_drew ?_ | refine blk_alloc ?_ _)); refine blk_put (cs := #[.int .i64 ((rd_T35 t334 a1).f0.f0), .int .i64 ((rd_T35 t334 a1).f0.f1), .int .i64 ((rd_T35 t334 a1).f1.f0), .int .i64 ((rd_T35 t334 a1).f1.f1), .int .i64 ((rd_T35 t334 a1).f2), .int .i32 0]) ?_ 5 _ rfl; (with_reducible repeat (first | refine blk_drewN ?_ _ | refine blk_drew ?_ | refine blk_alloc ?_ _)); refine blk_put (cs := #[.int .i64 ((rd_T35 t334 a1).f0.f0), .int .i64 ((rd_T35 t334 a1).f0.f1), .int .i64 ((rd_T35 t334 a1).f1.f0), .int .i64 ((rd_T35 t334 a1).f1.f1), .int .i64 0, .int .i32 0]) ?_ 4 _ rfl; (with_reducible repeat (first | refine blk_drewN ?_ _ | refine blk_drew ?_ | refine blk_alloc ?_ _)); refine blk_put (cs := #[.int .i64 ((rd_T35 t334 a1).f0.f0), .int .i64 ((rd_T35 t334 a1).f0.f1), .int .i64 ((rd_T35 t334 a1).f1.f0), .int .i64 0, .int .i64 0, .int .i32 0]) ?_ 3 _ rfl; (with_reducible repeat (first | refine blk_drewN ?_ _ | refine blk_drew ?_ | refine blk_alloc ?_ _)); refine blk_put (cs := #[.int .i64 ((rd_T35 t334 a1).f0.f0), .int .i64 ((rd_T35 t334 a1).f0.f1), .int .i64 0, .int .i64 0, .int .i64 0, .int .i32 0]) ?_ 2 _ rfl; (with_reducible repeat (first | refine blk_drewN ?_ _ | refine blk_drew ?_ | refine blk_alloc ?_ _)); refine blk_put (cs := #[.int .i64 ((rd_T35 t334 a1).f0.f0), .int .i64 0, .int .i64 0, .int .i64 0, .int .i64 0, .int .i32 0]) ?_ 1 _ rfl; (with_reducible repeat (first | refine blk_drewN ?_ _ | refine blk_drew ?_ | refine blk_alloc ?_ _)); refine blk_put (cs := #[.int .i64 0, .int .i64 0, .int .i64 0, .int .i64 0, .int .i64 0, .int .i32 0]) ?_ 0 _ rfl; (with_reducible repeat (first | refine blk_drewN ?_ _ | refine blk_drew ?_ | refine blk_alloc ?_ _)); exact BK333.out) Tryz.underlying35 rfl (by kernel_rfl)) rfl ?_
     exact ⟨by first | rfl | (simp [errW_none, errW_some] <;> rfl) | (simp [*, errW_none, errW_some] <;> rfl), by repeat (first | (with_reducible first | exact HB.out | apply below_alloc | apply pw_below_drewN | apply below_drew1 | refine below_set ?_ GE333.out) | exact HB.out)⟩
    ·
     rw [if_neg c9] at H
     exact absurd H (by simp)
   ·
    rw [if_neg c8] at H
    exact absurd H (by simp)
  ·
   rw [if_neg c7] at H
   have c7b0 : (t342 == 0) = false := beq_eq_false_iff_ne.mpr c7
   have c7b1 : (t342 != 0) = true := bne_iff_ne.mpr c7
   simp only [Option.some.injEq, Prod.mk.injEq] at H
   obtain ⟨rfl, rfl, rfl, rfl, rfl, rfl, rfl⟩ := H
   go_enter Tryz.func57, Tryz.ntmps57
   go_wp2_with (first | ((with_reducible refine gate_dst (N := 4) rfl ?_); (try (refine gate_guard (by rfl) ?_; dsimp only)); refine box_event ?hg (N := 4) ?hd (cs := #[.int .i64 0, .int .i64 0, .int .i64 0, .int .i64 0, .int .i64 0, .int .i32 0]) (t := 35) ?hr ?_; (case hd => rfl); (case hg => rfl); (case hr => first | (go_simp; done) | (go_simp; rfl)); intro gb333 hg w17 hbox hb; have n0_ := Aside0.mk (below_step (by repeat (first | (with_reducible first | exact HB.out | apply below_alloc | apply pw_below_drewN | apply below_drew1) | exact HB.out)) hb); have n1_ := Aside0.mk (hbox); have n2_ := Aside0.mk ((by rw [hg]; exact (below_size (by repeat (first | (with_reducible first | exact HB.out | apply below_alloc | apply pw_below_drewN | apply below_drew1) | exact HB.out))) : w.heap.size ≤ gb333)); have n3_ := Aside0.mk ((by rw [hg]; exact (below_size (by repeat (first | (with_reducible first | exact HB.out | apply below_alloc | apply pw_below_drewN | apply below_drew1) | exact HB.out))) : w.heap.size ≤ gb333)); clear HB; have HB := n0_; have BK333 := n1_; have GW333 := n2_; have GE333 := n3_; clear n0_ n1_ n2_ n3_; clear hb hbox hg) | ((with_reducible refine gate_callee (f := 98) rfl ?_); refine goesL_ (some 10) rfl rfl Tryz.func98 (by kernel_rfl) rfl #[.slice A0 l0.length c0] rfl (by (try simp only [List.map_toArray, List.map_cons, List.map_nil]); first | done | rfl | (simp only [List.length_drop, List.length_take]; rfl)) ?_; (with_reducible refine (index_visible.calls _ _ l0 t334 t335 _ ?side1 ?side2 A3.out).mono ?_); (case side1 => repeat (first | exact (Kd.C_below HR0.out HB.out) | (with_reducible refine Kd.C_alloc ?_ _) | (with_reducible refine Kd.C_drewN ?_ _) | (with_reducible refine Kd.C_drew ?_))); (case side2 => exact HC0.out); rintro e w18 ⟨v336, rfl, ho0, hb⟩; refine ⟨_, rfl, ?_⟩; have n0_ := Aside0.mk (Kd.R_lower (Kd.R_newB ho0 (g := gb333) (o := .cells #[.int .i64 0, .int .i64 0, .int .i64 0, .int .i64 0, .int .i64 0, .int .i32 0] 35 (0, 0)) (by (with_reducible repeat (first | refine blk_drewN ?_ _ | refine blk_drew ?_ | refine blk_alloc ?_ _)); exact BK333.out)) (below_size (by repeat (first | (with_reducible first | exact HB.out | apply below_alloc | apply pw_below_drewN | apply below_drew1 | refine below_set ?_ GE333.out) | exact HB.out)))); have n1_ := Aside0.mk (blk_below (g := gb333) (o := .cells #[.int .i64 0, .int .i64 0, .int .i64 0, .int .i64 0, .int .i64 0, .int .i32 0] 35 (0, 0)) (by (with_reducible repeat (first | refine blk_drewN ?_ _ | refine blk_drew ?_ | refine blk_alloc ?_ _)); exact BK333.out) hb); have n2_ := Aside0.mk (below_step (by repeat (first | (with_reducible first | exact HB.out | apply below_alloc | apply pw_below_drewN | apply below_drew1 | refine below_set ?_ GE333.out) | exact HB.out)) hb); clear BK333; clear HB; have HO337 := n0_; have BK333 := n1_; have HB := n2_; clear n0_ n1_ n2_; (try clear hb); (try clear hb2); (try clear hk); (try clear hi); (try clear ho0)) | ((with_reducible refine gate_callee (f := 100) rfl ?_); refine goesL_ (some 22) rfl rfl Tryz.func100 (by kernel_rfl) rfl #[.bool true, .int .i64 3] rfl (by (try simp only [List.map_toArray, List.map_cons, List.map_nil]); first | done | rfl | (simp only [List.length_drop, List.length_take]; rfl)) ?_; (with_reducible refine (index_when.calls true 3 t338 _ A5.out).mono ?_); rintro e w' ⟨rfl, ⟨nd, rfl⟩⟩; refine ⟨_, rfl, ?_⟩; (try (rw [drewN_self w18]; generalize hq_ : World.drewN w18 _ = w18; have n0_ : Aside0 (Kd.R k35 35 w18 w.heap.size (fun k_ => k_ ≠ gb333) v336 t334) := ⟨by rw [← hq_]; exact (by (with_reducible repeat (first | apply Kd.R_alloc | apply Kd.R_drewN | apply Kd.R_drew)); exact Kd.R_mono HO337.out (fun _ hk => hk.2))⟩; have n1_ : Aside0 (w18.heap[gb333]? = some (.cells #[.int .i64 0, .int .i64 0, .int .i64 0, .int .i64 0, .int .i64 0, .int .i32 0] 35 (0, 0))) := ⟨by rw [← hq_]; exact (by (with_reducible repeat (first | refine blk_drewN ?_ _ | refine blk_drew ?_ | refine blk_alloc ?_ _)); exact BK333.out)⟩; have n2_ : Aside0 (Below w.heap.size w w18) := ⟨by rw [← hq_]; exact (by repeat (first | (with_reducible first | exact HB.out | apply below_alloc | apply pw_below_drewN | apply below_drew1 | refine below_set ?_ GE333.out) | exact HB.out))⟩; clear HO337 BK333 HB hq_; have HO337 := n0_; have BK333 := n1_; have HB := n2_; clear n0_ n1_ n2_))) | ((with_reducible refine gate_dst (N := 23) rfl ?_); (try (refine gate_guard (by rfl) ?_; dsimp only)); refine Kd.R_lit (Kd.int .i64) _ 29 ?hg (N := 23) ?hd (xs := ([t335, t338] : List Int)) (inner := [.int .i64 t335, .int .i64 t338]) (ok := fun _ => True) (okp := fun _ => True) ?hr ?hp (fun _ hk => hk) trivial (Below.refl _ _) (Nat.le_refl _) (by simp) ?_; (case hd => rfl); (case hg => rfl); (case hr => first | (go_simp; done) | (go_simp; rfl)); (case hp => exact (Reps.one (show Kd.M (Kd.int .i64) _ _ _ t335 [.int .i64 t335] from rfl) (Reps.one (show Kd.M (Kd.int .i64) _ _ _ t338 [.int .i64 t338] from rfl) (Reps.none _ _)))); intro v340 w19 ho20 hb hg_ hnew_; clear hg_ hnew_; (first | rw [← Ny339.out] at ho20 | (simp only [Int.reduceToNat] at ho20; rw [← Ny339.out] at ho20)); have n0_ := Aside0.mk (Kd.R_below (by (with_reducible repeat (first | apply Kd.R_alloc | apply Kd.R_drewN | apply Kd.R_drew)); exact HO337.out) hb); have n1_ := Aside0.mk (Kd.R_lower ho20 (below_size (by repeat (first | (with_reducible first | exact HB.out | apply below_alloc | apply pw_below_drewN | apply below_drew1 | refine below_set ?_ GE333.out) | exact HB.out)))); have n2_ := Aside0.mk (blk_below (g := gb333) (o := .cells #[.int .i64 0, .int .i64 0, .int .i64 0, .int .i64 0, .int .i64 0, .int .i32 0] 35 (0, 0)) (by (with_reducible repeat (first | refine blk_drewN ?_ _ | refine blk_drew ?_ | refine blk_alloc ?_ _)); exact BK333.out) hb); have n3_ := Aside0.mk (below_step (by repeat (first | (with_reducible first | exact HB.out | apply below_alloc | apply pw_below_drewN | apply below_drew1 | refine below_set ?_ GE333.out) | exact HB.out)) hb); clear HO337; clear BK333; clear HB; have HO337 := n0_; have HO341 := n1_; have BK333 := n2_; have HB := n3_; clear n0_ n1_ n2_ n3_; clear hb ho20; obtain ⟨Ao21, co21, eo21⟩ := Kd.R_slice HO341.out; subst eo21) | ((with_reducible refine gate_callee (f := 99) rfl ?_); refine goesL_ (some 24) rfl rfl Tryz.func99 (by kernel_rfl) rfl #[.slice Ao21 y339.length co21] rfl (by (try simp only [List.map_toArray, List.map_cons, List.map_nil]); first | done | rfl | (simp only [List.length_drop, List.length_take]; rfl)) ?_; (with_reducible refine (index_first.calls k _ _ y339 t342 _ ?side1 ?side2 A6.out).mono ?_); (case side1 => repeat (first | exact (Kd.R_reads' HO341.out).2.2 | (with_reducible refine Kd.C_alloc ?_ _) | (with_reducible refine Kd.C_drewN ?_ _) | (with_reducible refine Kd.C_drew ?_))); (case side2 => exact (Kd.R_reads' HO341.out).2.1); rintro e w' ⟨rfl, ⟨nd, rfl⟩⟩; refine ⟨_, rfl, ?_⟩; (try (rw [drewN_self w19]; generalize hq_ : World.drewN w19 _ = w19; have n0_ : Aside0 (Kd.R k35 35 w19 w.heap.size (fun k_ => k_ ≠ gb333) v336 t334) := ⟨by rw [← hq_]; exact (by (with_reducible repeat (first | apply Kd.R_alloc | apply Kd.R_drewN | apply Kd.R_drew)); exact Kd.R_mono HO337.out (fun _ hk => hk.2))⟩; have n1_ : Aside0 (Kd.R (Kd.int .i64) 29 w19 w.heap.size (fun _ => True) (.slice Ao21 y339.length co21) y339) := ⟨by rw [← hq_]; exact (by (with_reducible repeat (first | apply Kd.R_alloc | apply Kd.R_drewN | apply Kd.R_drew)); exact HO341.out)⟩; have n2_ : Aside0 (w19.heap[gb333]? = some (.cells #[.int .i64 0, .int .i64 0, .int .i64 0, .int .i64 0, .int .i64 0, .int .i32 0] 35 (0, 0))) := ⟨by rw [← hq_]; exact (by (with_reducible repeat (first | refine blk_drewN ?_ _ | refine blk_drew ?_ | refine blk_alloc ?_ _)); exact BK333.out)⟩; have n3_ : Aside0 (Below w.heap.size w w19) := ⟨by rw [← hq_]; exact (by repeat (first | (with_reducible first | exact HB.out | apply below_alloc | apply pw_below_drewN | apply below_drew1 | refine below_set ?_ GE333.out) | exact HB.out))⟩; clear HO337 HO341 BK333 HB hq_; have HO337 := n0_; have HO341 := n1_; have BK333 := n2_; have HB := n3_; clear n0_ n1_ n2_ n3_)); have hcz22_0 : w19.cell? ⟨gb333, 0, none⟩ = some (.int .i64 0) := (blk_cell BK333.out 0).trans rfl; have hcz22_1 : w19.cell? ⟨gb333, 1, none⟩ = some (.int .i64 0) := (blk_cell BK333.out 1).trans rfl; have hcz22_2 : w19.cell? ⟨gb333, 2, none⟩ = some (.int .i64 0) := (blk_cell BK333.out 2).trans rfl; have hcz22_3 : w19.cell? ⟨gb333, 3, none⟩ = some (.int .i64 0) := (blk_cell BK333.out 3).trans rfl; have hcz22_4 : w19.cell? ⟨gb333, 4, none⟩ = some (.int .i64 0) := (blk_cell BK333.out 4).trans rfl; have hcz22_5 : w19.cell? ⟨gb333, 5, none⟩ = some (.int .i32 0) := (blk_cell BK333.out 5).trans rfl; have hfz22_0 := blk_frozen BK333.out 0; have hfz22_1 := blk_frozen BK333.out 1; have hfz22_2 := blk_frozen BK333.out 2; have hfz22_3 := blk_frozen BK333.out 3; have hfz22_4 := blk_frozen BK333.out 4; have hfz22_5 := blk_frozen BK333.out 5))
   refine bodyPost_ret (results_ct rfl _ _ gb333 35 #[.int .i64 0, .int .i64 0, .int .i64 0, .int .i64 0, .int .i64 0, .int .i32 0] (0, 0) _ rfl (by (with_reducible repeat (first | refine blk_drewN ?_ _ | refine blk_drew ?_ | refine blk_alloc ?_ _)); refine blk_put (cs := #[.int .i64 0, .int .i64 0, .int .i64 0, .int .i64 0, .int .i64 0, .int .i32 0]) ?_ 5 _ rfl; (with_reducible repeat (first | refine blk_drewN ?_ _ | refine blk_drew ?_ | refine blk_alloc ?_ _)); refine blk_put (cs := #[.int .i64 0, .int .i64 0, .int .i64 0, .int .i64 0, .int .i64 0, .int .i32 0]) ?_ 4 _ rfl; (with_reducible repeat (first | refine blk_drewN ?_ _ | refine blk_drew ?_ | refine blk_alloc ?_ _)); refine blk_put (cs := #[.int .i64 0, .int .i64 0, .int .i64 0, .int .i64 0, .int .i64 0, .int .i32 0]) ?_ 3 _ rfl; (with_reducible repeat (first | refine blk_drewN ?_ _ | refine blk_drew ?_ | refine blk_alloc ?_ _)); refine blk_put (cs := #[.int .i64 0, .int .i64 0, .int .i64 0, .int .i64 0, .int .i64 0, .int .i32 0]) ?_ 2 _ rfl; (with_reducible repeat (first | refine blk_drewN ?_ _ | refine blk_drew ?_ | refine blk_alloc ?_ _)); refine blk_put (cs := #[.int .i64 0, .int .i64 0, .int .i64 0, .int .i64 0, .int .i64 0, .int .i32 0]) ?_ 1 _ rfl; (with_reducible repeat (first | refine blk_drewN ?_ _ | refine blk_drew ?_ | refine blk_alloc ?_ _)); refine blk_put (cs := #[.int .i64 0, .int .i64 0, .int .i64 0, .int .i64 0, .int .i64 0, .int .i32 0]) ?_ 0 _ rfl; (with_reducible repeat (first | refine blk_drewN ?_ _ | refine blk_drew ?_ | refine blk_alloc ?_ _)); exact BK333.out) Tryz.underlying35 rfl (by kernel_rfl)) rfl ?_
   exact ⟨by first | rfl | (simp [errW_none, errW_some] <;> rfl) | (simp [*, errW_none, errW_some] <;> rfl), by repeat (first | (with_reducible first | exact HB.out | apply below_alloc | apply pw_below_drewN | apply below_drew1 | refine below_set ?_ GE333.out) | exact HB.out)⟩
 ·
  rw [if_neg c4] at H
  have c4b0 : decide (a1 < 0) = false := decide_eq_false c4
  clear c4
  replace H := Option.bind_eq_some_iff.mp H
  obtain ⟨t344, A230, H⟩ := H
  replace H : ((index_first.f k (([t335, t344] : List Int))).bind fun t348 => (if t348 = 0 then (if 0 ≤ a1 then (if a1 < (t334.length : Int) then (some ((rd_T35 t334 a1).f0.f0, (rd_T35 t334 a1).f0.f1, (rd_T35 t334 a1).f1.f0, (rd_T35 t334 a1).f1.f1, (rd_T35 t334 a1).f2, (rd_T35 t334 a1).f3, 0)) else (none)) else (none)) else (some (0, 0, 0, 0, 0, 0, t348)))) = some (r1, r2, r3, r4, r5, r6, r7) := H
  have A23 := Aside0.mk A230
  clear A230
  obtain ⟨y345, hy345⟩ : ∃ y_ : List Int, y_ = (([t335, t344] : List Int)) := ⟨_, rfl⟩
  replace H : ((index_first.f k y345).bind fun t348 => (if t348 = 0 then (if 0 ≤ a1 then (if a1 < (t334.length : Int) then (some ((rd_T35 t334 a1).f0.f0, (rd_T35 t334 a1).f0.f1, (rd_T35 t334 a1).f1.f0, (rd_T35 t334 a1).f1.f1, (rd_T35 t334 a1).f2, (rd_T35 t334 a1).f3, 0)) else (none)) else (none)) else (some (0, 0, 0, 0, 0, 0, t348)))) = some (r1, r2, r3, r4, r5, r6, r7) := by first | (rw [hy345]; with_reducible exact H) | (have H2_ := (Option.bind_some _ _).symm.trans H; rw [hy345]; with_reducible exact H2_) | (have H2_ := (Option.bind_some _ _).symm.trans H; with_reducible exact H2_) | with_reducible exact H | (rw [hy345]; exact H) | exact H
  have Ny345 := Aside0.mk hy345
  clear hy345
  replace H := Option.bind_eq_some_iff.mp H
  obtain ⟨t348, A240, H⟩ := H
  replace H : (if t348 = 0 then (if 0 ≤ a1 then (if a1 < (t334.length : Int) then (some ((rd_T35 t334 a1).f0.f0, (rd_T35 t334 a1).f0.f1, (rd_T35 t334 a1).f1.f0, (rd_T35 t334 a1).f1.f1, (rd_T35 t334 a1).f2, (rd_T35 t334 a1).f3, 0)) else (none)) else (none)) else (some (0, 0, 0, 0, 0, 0, t348))) = some (r1, r2, r3, r4, r5, r6, r7) := H
  have A24 := Aside0.mk A240
  clear A240
  by_cases c25 : t348 = 0
  ·
   rw [if_pos c25] at H
   have c25b0 : (t348 == 0) = true := beq_iff_eq.mpr c25
   have c25b1 : (t348 != 0) = false := bne_eq_false_iff_eq.mpr c25
   clear c25
   by_cases c26 : 0 ≤ a1
   ·
    rw [if_pos c26] at H
    have c26b0 : decide (0 ≤ a1) = true := decide_eq_true c26
    clear c26
    by_cases c27 : a1 < (t334.length : Int)
    ·
     rw [if_pos c27] at H
     have c27b0 : decide (a1 < (t334.length : Int)) = true := decide_eq_true c27
     clear c27
     simp only [Option.some.injEq, Prod.mk.injEq] at H
     obtain ⟨rfl, rfl, rfl, rfl, rfl, rfl, rfl⟩ := H
     go_enter Tryz.func57, Tryz.ntmps57
     go_wp2_with (first | ((with_reducible refine gate_dst (N := 4) rfl ?_); (try (refine gate_guard (by rfl) ?_; dsimp only)); refine box_event ?hg (N := 4) ?hd (cs := #[.int .i64 0, .int .i64 0, .int .i64 0, .int .i64 0, .int .i64 0, .int .i32 0]) (t := 35) ?hr ?_; (case hd => rfl); (case hg => rfl); (case hr => first | (go_simp; done) | (go_simp; rfl)); intro gb333 hg w28 hbox hb; have n0_ := Aside0.mk (below_step (by repeat (first | (with_reducible first | exact HB.out | apply below_alloc | apply pw_below_drewN | apply below_drew1) | exact HB.out)) hb); have n1_ := Aside0.mk (hbox); have n2_ := Aside0.mk ((by rw [hg]; exact (below_size (by repeat (first | (with_reducible first | exact HB.out | apply below_alloc | apply pw_below_drewN | apply below_drew1) | exact HB.out))) : w.heap.size ≤ gb333)); have n3_ := Aside0.mk ((by rw [hg]; exact (below_size (by repeat (first | (with_reducible first | exact HB.out | apply below_alloc | apply pw_below_drewN | apply below_drew1) | exact HB.out))) : w.heap.size ≤ gb333)); clear HB; have HB := n0_; have BK333 := n1_; have GW333 := n2_; have GE333 := n3_; clear n0_ n1_ n2_ n3_; clear hb hbox hg) | ((with_reducible refine gate_callee (f := 98) rfl ?_); refine goesL_ (some 10) rfl rfl Tryz.func98 (by kernel_rfl) rfl #[.slice A0 l0.length c0] rfl (by (try simp only [List.map_toArray, List.map_cons, List.map_nil]); first | done | rfl | (simp only [List.length_drop, List.length_take]; rfl)) ?_; (with_reducible refine (index_visible.calls _ _ l0 t334 t335 _ ?side1 ?side2 A3.out).mono ?_); (case side1 => repeat (first | exact (Kd.C_below HR0.out HB.out) | (with_reducible refine Kd.C_alloc ?_ _) | (with_reducible refine Kd.C_drewN ?_ _) | (with_reducible refine Kd.C_drew ?_))); (case side2 => exact HC0.out); rintro e w29 ⟨v336, rfl, ho0, hb⟩; refine ⟨_, rfl, ?_⟩; have n0_ := Aside0.mk (Kd.R_lower (Kd.R_newB ho0 (g := gb333) (o := .cells #[.int .i64 0, .int .i64 0, .int .i64 0, .int .i64 0, .int .i64 0, .int .i32 0] 35 (0, 0)) (by (with_reducible repeat (first | refine blk_drewN ?_ _ | refine blk_drew ?_ | refine blk_alloc ?_ _)); exact BK333.out)) (below_size (by repeat (first | (with_reducible first | exact HB.out | apply below_alloc | apply pw_below_drewN | apply below_drew1 | refine below_set ?_ GE333.out) | exact HB.out)))); have n1_ := Aside0.mk (blk_below (g := gb333) (o := .cells #[.int .i64 0, .int .i64 0, .int .i64 0, .int .i64 0, .int .i64 0, .int .i32 0] 35 (0, 0)) (by (with_reducible repeat (first | refine blk_drewN ?_ _ | refine blk_drew ?_ | refine blk_alloc ?_ _)); exact BK333.out) hb); have n2_ := Aside0.mk (below_step (by repeat (first | (with_reducible first | exact HB.out | apply below_alloc | apply pw_below_drewN | apply below_drew1 | refine below_set ?_ GE333.out) | exact HB.out)) hb); clear BK333; clear HB; have HO337 := n0_; have BK333 := n1_; have HB := n2_; clear n0_ n1_ n2_; (try clear hb); (try clear hb2); (try clear hk); (try clear hi); (try clear ho0); obtain ⟨Ao30, co30, eo30⟩ := Kd.R_slice HO337.out; subst eo30) | ((with_reducible refine gate_callee (f := 100) rfl ?_); refine goesL_ (some 22) rfl rfl Tryz.func100 (by kernel_rfl) rfl #[.bool (decide (a1 ≥ (t334.length : Int))), .int .i64 3] rfl (by (try simp only [List.map_toArray, List.map_cons, List.map_nil]); first | done | rfl | (simp only [List.length_drop, List.length_take]; rfl)) ?_; (with_reducible refine (index_when.calls (decide (a1 ≥ (t334.length : Int))) 3 t344 _ A23.out).mono ?_); rintro e w' ⟨rfl, ⟨nd, rfl⟩⟩; refine ⟨_, rfl, ?_⟩; (try (rw [drewN_self w29]; generalize hq_ : World.drewN w29 _ = w29; have n0_ : Aside0 (Kd.R k35 35 w29 w.heap.size (fun k_ => k_ ≠ gb333) (.slice Ao30 t334.length co30) t334) := ⟨by rw [← hq_]; exact (by (with_reducible repeat (first | apply Kd.R_alloc | apply Kd.R_drewN | apply Kd.R_drew)); exact Kd.R_mono HO337.out (fun _ hk => hk.2))⟩; have n1_ : Aside0 (w29.heap[gb333]? = some (.cells #[.int .i64 0, .int .i64 0, .int .i64 0, .int .i64 0, .int .i64 0, .int .i32 0] 35 (0, 0))) := ⟨by rw [← hq_]; exact (by (with_reducible repeat (first | refine blk_drewN ?_ _ | refine blk_drew ?_ | refine blk_alloc ?_ _)); exact BK333.out)⟩; have n2_ : Aside0 (Below w.heap.size w w29) := ⟨by rw [← hq_]; exact (by repeat (first | (with_reducible first | exact HB.out | apply below_alloc | apply pw_below_drewN | apply below_drew1 | refine below_set ?_ GE333.out) | exact HB.out))⟩; clear HO337 BK333 HB hq_; have HO337 := n0_; have BK333 := n1_; have HB := n2_; clear n0_ n1_ n2_))) | ((with_reducible refine gate_dst (N := 23) rfl ?_); (try (refine gate_guard (by rfl) ?_; dsimp only)); refine Kd.R_lit (Kd.int .i64) _ 29 ?hg (N := 23) ?hd (xs := ([t335, t344] : List Int)) (inner := [.int .i64 t335, .int .i64 t344]) (ok := fun _ => True) (okp := fun _ => True) ?hr ?hp (fun _ hk => hk) trivial (Below.refl _ _) (Nat.le_refl _) (by simp) ?_; (case hd => rfl); (case hg => rfl); (case hr => first | (go_simp; done) | (go_simp; rfl)); (case hp => exact (Reps.one (show Kd.M (Kd.int .i64) _ _ _ t335 [.int .i64 t335] from rfl) (Reps.one (show Kd.M (Kd.int .i64) _ _ _ t344 [.int .i64 t344] from rfl) (Reps.none _ _)))); intro v346 w31 ho32 hb hg_ hnew_; clear hg_ hnew_; (first | rw [← Ny345.out] at ho32 | (simp only [Int.reduceToNat] at ho32; rw [← Ny345.out] at ho32)); have n0_ := Aside0.mk (Kd.R_below (by (with_reducible repeat (first | apply Kd.R_alloc | apply Kd.R_drewN | apply Kd.R_drew)); exact HO337.out) hb); have n1_ := Aside0.mk (Kd.R_lower ho32 (below_size (by repeat (first | (with_reducible first | exact HB.out | apply below_alloc | apply pw_below_drewN | apply below_drew1 | refine below_set ?_ GE333.out) | exact HB.out)))); have n2_ := Aside0.mk (blk_below (g := gb333) (o := .cells #[.int .i64 0, .int .i64 0, .int .i64 0, .int .i64 0, .int .i64 0, .int .i32 0] 35 (0, 0)) (by (with_reducible repeat (first | refine blk_drewN ?_ _ | refine blk_drew ?_ | refine blk_alloc ?_ _)); exact BK333.out) hb); have n3_ := Aside0.mk (below_step (by repeat (first | (with_reducible first | exact HB.out | apply below_alloc | apply pw_below_drewN | apply below_drew1 | refine below_set ?_ GE333.out) | exact HB.out)) hb); clear HO337; clear BK333; clear HB; have HO337 := n0_; have HO347 := n1_; have BK333 := n2_; have HB := n3_; clear n0_ n1_ n2_ n3_; clear hb ho32; obtain ⟨Ao33, co33, eo33⟩ := Kd.R_slice HO347.out; subst eo33) | ((with_reducible refine gate_callee (f := 99) rfl ?_); refine goesL_ (some 24) rfl rfl Tryz.func99 (by kernel_rfl) rfl #[.slice Ao33 y345.length co33] rfl (by (try simp only [List.map_toArray, List.map_cons, List.map_nil]); first | done | rfl | (simp only [List.length_drop, List.length_take]; rfl)) ?_; (with_reducible refine (index_first.calls k _ _ y345 t348 _ ?side1 ?side2 A24.out).mono ?_); (case side1 => repeat (first | exact (Kd.R_reads' HO347.out).2.2 | (with_reducible refine Kd.C_alloc ?_ _) | (with_reducible refine Kd.C_drewN ?_ _) | (with_reducible refine Kd.C_drew ?_))); (case side2 => exact (Kd.R_reads' HO347.out).2.1); rintro e w' ⟨rfl, ⟨nd, rfl⟩⟩; refine ⟨_, rfl, ?_⟩; (try (rw [drewN_self w31]; generalize hq_ : World.drewN w31 _ = w31; have n0_ : Aside0 (Kd.R k35 35 w31 w.heap.size (fun k_ => k_ ≠ gb333) (.slice Ao30 t334.length co30) t334) := ⟨by rw [← hq_]; exact (by (with_reducible repeat (first | apply Kd.R_alloc | apply Kd.R_drewN | apply Kd.R_drew)); exact Kd.R_mono HO337.out (fun _ hk => hk.2))⟩; have n1_ : Aside0 (Kd.R (Kd.int .i64) 29 w31 w.heap.size (fun _ => True) (.slice Ao33 y345.length co33) y345) := ⟨by rw [← hq_]; exact (by (with_reducible repeat (first | apply Kd.R_alloc | apply Kd.R_drewN | apply Kd.R_drew)); exact HO347.out)⟩; have n2_ : Aside0 (w31.heap[gb333]? = some (.cells #[.int .i64 0, .int .i64 0, .int .i64 0, .int .i64 0, .int .i64 0, .int .i32 0] 35 (0, 0))) := ⟨by rw [← hq_]; exact (by (with_reducible repeat (first | refine blk_drewN ?_ _ | refine blk_drew ?_ | refine blk_alloc ?_ _)); exact BK333.out)⟩; have n3_ : Aside0 (Below w.heap.size w w31) := ⟨by rw [← hq_]; exact (by repeat (first | (with_reducible first | exact HB.out | apply below_alloc | apply pw_below_drewN | apply below_drew1 | refine below_set ?_ GE333.out) | exact HB.out))⟩; clear HO337 HO347 BK333 HB hq_; have HO337 := n0_; have HO347 := n1_; have BK333 := n2_; have HB := n3_; clear n0_ n1_ n2_ n3_)); have p349 : 0 ≤ (a1 : Int) := of_decide_eq_true (by first | (with_reducible assumption) | assumption); have q349 : a1 < (t334.length : Int) := of_decide_eq_true (by first | (with_reducible assumption) | assumption); obtain ⟨ad349, e349, hx349_0, hx349_1, hx349_2, hx349_3, hx349_4, hx349_5⟩ := at_T35 (Kd.R_reads' HO337.out).2.2 a1 p349 q349; cases e349; replace p349 := eq_true p349; replace q349 := eq_true q349; have hcz34_0 : w31.cell? ⟨gb333, 0, none⟩ = some (.int .i64 0) := (blk_cell BK333.out 0).trans rfl; have hcz34_1 : w31.cell? ⟨gb333, 1, none⟩ = some (.int .i64 0) := (blk_cell BK333.out 1).trans rfl; have hcz34_2 : w31.cell? ⟨gb333, 2, none⟩ = some (.int .i64 0) := (blk_cell BK333.out 2).trans rfl; have hcz34_3 : w31.cell? ⟨gb333, 3, none⟩ = some (.int .i64 0) := (blk_cell BK333.out 3).trans rfl; have hcz34_4 : w31.cell? ⟨gb333, 4, none⟩ = some (.int .i64 0) := (blk_cell BK333.out 4).trans rfl; have hcz34_5 : w31.cell? ⟨gb333, 5, none⟩ = some (.int .i32 0) := (blk_cell BK333.out 5).trans rfl; have hfz34_0 := blk_frozen BK333.out 0; have hfz34_1 := blk_frozen BK333.out 1; have hfz34_2 := blk_frozen BK333.out 2; have hfz34_3 := blk_frozen BK333.out 3; have hfz34_4 := blk_frozen BK333.out 4; have hfz34_5 := blk_frozen BK333.out 5))
     refine bodyPost_ret (results_ct rfl _ _ gb333 35 #[.int .i64 ((rd_T35 t334 a1).f0.f0), .int .i64 ((rd_T35 t334 a1).f0.f1), .int .i64 ((rd_T35 t334 a1).f1.f0), .int .i64 ((rd_T35 t334 a1).f1.f1), .int .i64 ((rd_T35 t334 a1).f2), .int .i32 ((rd_T35 t334 a1).f3)] (0, 0) _ rfl (by (with_reducible repeat (first | refine blk_drewN ?_ _ | refine blk_drew ?_ | refine blk_alloc ?_ _)); refine blk_put (cs := #[.int .i64 ((rd_T35 t334 a1).f0.f0), .int .i64 ((rd_T35 t334 a1).f0.f1), .int .i64 ((rd_T35 t334 a1).f1.f0), .int .i64 ((rd_T35 t334 a1).f1.f1), .int .i64 ((rd_T35 t334 a1).f2), .int .i32 0]) ?_ 5 _ rfl; (with_reducible repeat (first | refine blk_drewN ?_ _ | refine blk_drew ?_ | refine blk_alloc ?_ _)); refine blk_put (cs := #[.int .i64 ((rd_T35 t334 a1).f0.f0), .int .i64 ((rd_T35 t334 a1).f0.f1), .int .i64 ((rd_T35 t334 a1).f1.f0), .int .i64 ((rd_T35 t334 a1).f1.f1), .int .i64 0, .int .i32 0]) ?_ 4 _ rfl; (with_reducible repeat (first | refine blk_drewN ?_ _ | refine blk_drew ?_ | refine blk_alloc ?_ _)); refine blk_put (cs := #[.int .i64 ((rd_T35 t334 a1).f0.f0), .int .i64 ((rd_T35 t334 a1).f0.f1), .int .i64 ((rd_T35 t334 a1).f1.f0), .int .i64 0, .int .i64 0, .int .i32 0]) ?_ 3 _ rfl; (with_reducible repeat (first | refine blk_drewN ?_ _ | refine blk_drew ?_ | refine blk_alloc ?_ _)); refine blk_put (cs := #[.int .i64 ((rd_T35 t334 a1).f0.f0), .int .i64 ((rd_T35 t334 a1).f0.f1), .int .i64 0, .int .i64 0, .int .i64 0, .int .i32 0]) ?_ 2 _ rfl; (with_reducible repeat (first | refine blk_drewN ?_ _ | refine blk_drew ?_ | refine blk_alloc ?_ _)); refine blk_put (cs := #[.int .i64 ((rd_T35 t334 a1).f0.f0), .int .i64 0, .int .i64 0, .int .i64 0, .int .i64 0, .int .i32 0]) ?_ 1 _ rfl; (with_reducible repeat (first | refine blk_drewN ?_ _ | refine blk_drew ?_ | refine blk_alloc ?_ _)); refine blk_put (cs := #[.int .i64 0, .int .i64 0, .int .i64 0, .int .i64 0, .int .i64 0, .int .i32 0]) ?_ 0 _ rfl; (with_reducible repeat (first | refine blk_drewN ?_ _ | refine blk_drew ?_ | refine blk_alloc ?_ _)); exact BK333.out) Tryz.underlying35 rfl (by kernel_rfl)) rfl ?_
     exact ⟨by first | rfl | (simp [errW_none, errW_some] <;> rfl) | (simp [*, errW_none, errW_some] <;> rfl), by repeat (first | (with_reducible first | exact HB.out | apply below_alloc | apply pw_below_drewN | apply below_drew1 | refine below_set ?_ GE333.out) | exact HB.out)⟩
    ·
     rw [if_neg c27] at H
     exact absurd H (by simp)
   ·
    rw [if_neg c26] at H
    exact absurd H (by simp)
  ·
   rw [if_neg c25] at H
   have c25b0 : (t348 == 0) = false := beq_eq_false_iff_ne.mpr c25
   have c25b1 : (t348 != 0) = true := bne_iff_ne.mpr c25
   simp only [Option.some.injEq, Prod.mk.injEq] at H
   obtain ⟨rfl, rfl, rfl, rfl, rfl, rfl, rfl⟩ := H
   go_enter Tryz.func57, Tryz.ntmps57
   go_wp2_with (first | ((with_reducible refine gate_dst (N := 4) rfl ?_); (try (refine gate_guard (by rfl) ?_; dsimp only)); refine box_event ?hg (N := 4) ?hd (cs := #[.int .i64 0, .int .i64 0, .int .i64 0, .int .i64 0, .int .i64 0, .int .i32 0]) (t := 35) ?hr ?_; (case hd => rfl); (case hg => rfl); (case hr => first | (go_simp; done) | (go_simp; rfl)); intro gb333 hg w35 hbox hb; have n0_ := Aside0.mk (below_step (by repeat (first | (with_reducible first | exact HB.out | apply below_alloc | apply pw_below_drewN | apply below_drew1) | exact HB.out)) hb); have n1_ := Aside0.mk (hbox); have n2_ := Aside0.mk ((by rw [hg]; exact (below_size (by repeat (first | (with_reducible first | exact HB.out | apply below_alloc | apply pw_below_drewN | apply below_drew1) | exact HB.out))) : w.heap.size ≤ gb333)); have n3_ := Aside0.mk ((by rw [hg]; exact (below_size (by repeat (first | (with_reducible first | exact HB.out | apply below_alloc | apply pw_below_drewN | apply below_drew1) | exact HB.out))) : w.heap.size ≤ gb333)); clear HB; have HB := n0_; have BK333 := n1_; have GW333 := n2_; have GE333 := n3_; clear n0_ n1_ n2_ n3_; clear hb hbox hg) | ((with_reducible refine gate_callee (f := 98) rfl ?_); refine goesL_ (some 10) rfl rfl Tryz.func98 (by kernel_rfl) rfl #[.slice A0 l0.length c0] rfl (by (try simp only [List.map_toArray, List.map_cons, List.map_nil]); first | done | rfl | (simp only [List.length_drop, List.length_take]; rfl)) ?_; (with_reducible refine (index_visible.calls _ _ l0 t334 t335 _ ?side1 ?side2 A3.out).mono ?_); (case side1 => repeat (first | exact (Kd.C_below HR0.out HB.out) | (with_reducible refine Kd.C_alloc ?_ _) | (with_reducible refine Kd.C_drewN ?_ _) | (with_reducible refine Kd.C_drew ?_))); (case side2 => exact HC0.out); rintro e w36 ⟨v336, rfl, ho0, hb⟩; refine ⟨_, rfl, ?_⟩; have n0_ := Aside0.mk (Kd.R_lower (Kd.R_newB ho0 (g := gb333) (o := .cells #[.int .i64 0, .int .i64 0, .int .i64 0, .int .i64 0, .int .i64 0, .int .i32 0] 35 (0, 0)) (by (with_reducible repeat (first | refine blk_drewN ?_ _ | refine blk_drew ?_ | refine blk_alloc ?_ _)); exact BK333.out)) (below_size (by repeat (first | (with_reducible first | exact HB.out | apply below_alloc | apply pw_below_drewN | apply below_drew1 | refine below_set ?_ GE333.out) | exact HB.out)))); have n1_ := Aside0.mk (blk_below (g := gb333) (o := .cells #[.int .i64 0, .int .i64 0, .int .i64 0, .int .i64 0, .int .i64 0, .int .i32 0] 35 (0, 0)) (by (with_reducible repeat (first | refine blk_drewN ?_ _ | refine blk_drew ?_ | refine blk_alloc ?_ _)); exact BK333.out) hb); have n2_ := Aside0.mk (below_step (by repeat (first | (with_reducible first | exact HB.out | apply below_alloc | apply pw_below_drewN | apply below_drew1 | refine below_set ?_ GE333.out) | exact HB.out)) hb); clear BK333; clear HB; have HO337 := n0_; have BK333 := n1_; have HB := n2_; clear n0_ n1_ n2_; (try clear hb); (try clear hb2); (try clear hk); (try clear hi); (try clear ho0); obtain ⟨Ao37, co37, eo37⟩ := Kd.R_slice HO337.out; subst eo37) | ((with_reducible refine gate_callee (f := 100) rfl ?_); refine goesL_ (some 22) rfl rfl Tryz.func100 (by kernel_rfl) rfl #[.bool (decide (a1 ≥ (t334.length : Int))), .int .i64 3] rfl (by (try simp only [List.map_toArray, List.map_cons, List.map_nil]); first | done | rfl | (simp only [List.length_drop, List.length_take]; rfl)) ?_; (with_reducible refine (index_when.calls (decide (a1 ≥ (t334.length : Int))) 3 t344 _ A23.out).mono ?_); rintro e w' ⟨rfl, ⟨nd, rfl⟩⟩; refine ⟨_, rfl, ?_⟩; (try (rw [drewN_self w36]; generalize hq_ : World.drewN w36 _ = w36; have n0_ : Aside0 (Kd.R k35 35 w36 w.heap.size (fun k_ => k_ ≠ gb333) (.slice Ao37 t334.length co37) t334) := ⟨by rw [← hq_]; exact (by (with_reducible repeat (first | apply Kd.R_alloc | apply Kd.R_drewN | apply Kd.R_drew)); exact Kd.R_mono HO337.out (fun _ hk => hk.2))⟩; have n1_ : Aside0 (w36.heap[gb333]? = some (.cells #[.int .i64 0, .int .i64 0, .int .i64 0, .int .i64 0, .int .i64 0, .int .i32 0] 35 (0, 0))) := ⟨by rw [← hq_]; exact (by (with_reducible repeat (first | refine blk_drewN ?_ _ | refine blk_drew ?_ | refine blk_alloc ?_ _)); exact BK333.out)⟩; have n2_ : Aside0 (Below w.heap.size w w36) := ⟨by rw [← hq_]; exact (by repeat (first | (with_reducible first | exact HB.out | apply below_alloc | apply pw_below_drewN | apply below_drew1 | refine below_set ?_ GE333.out) | exact HB.out))⟩; clear HO337 BK333 HB hq_; have HO337 := n0_; have BK333 := n1_; have HB := n2_; clear n0_ n1_ n2_))) | ((with_reducible refine gate_dst (N := 23) rfl ?_); (try (refine gate_guard (by rfl) ?_; dsimp only)); refine Kd.R_lit (Kd.int .i64) _ 29 ?hg (N := 23) ?hd (xs := ([t335, t344] : List Int)) (inner := [.int .i64 t335, .int .i64 t344]) (ok := fun _ => True) (okp := fun _ => True) ?hr ?hp (fun _ hk => hk) trivial (Below.refl _ _) (Nat.le_refl _) (by simp) ?_; (case hd => rfl); (case hg => rfl); (case hr => first | (go_simp; done) | (go_simp; rfl)); (case hp => exact (Reps.one (show Kd.M (Kd.int .i64) _ _ _ t335 [.int .i64 t335] from rfl) (Reps.one (show Kd.M (Kd.int .i64) _ _ _ t344 [.int .i64 t344] from rfl) (Reps.none _ _)))); intro v346 w38 ho39 hb hg_ hnew_; clear hg_ hnew_; (first | rw [← Ny345.out] at ho39 | (simp only [Int.reduceToNat] at ho39; rw [← Ny345.out] at ho39)); have n0_ := Aside0.mk (Kd.R_below (by (with_reducible repeat (first | apply Kd.R_alloc | apply Kd.R_drewN | apply Kd.R_drew)); exact HO337.out) hb); have n1_ := Aside0.mk (Kd.R_lower ho39 (below_size (by repeat (first | (with_reducible first | exact HB.out | apply below_alloc | apply pw_below_drewN | apply below_drew1 | refine below_set ?_ GE333.out) | exact HB.out)))); have n2_ := Aside0.mk (blk_below (g := gb333) (o := .cells #[.int .i64 0, .int .i64 0, .int .i64 0, .int .i64 0, .int .i64 0, .int .i32 0] 35 (0, 0)) (by (with_reducible repeat (first | refine blk_drewN ?_ _ | refine blk_drew ?_ | refine blk_alloc ?_ _)); exact BK333.out) hb); have n3_ := Aside0.mk (below_step (by repeat (first | (with_reducible first | exact HB.out | apply below_alloc | apply pw_below_drewN | apply below_drew1 | refine below_set ?_ GE333.out) | exact HB.out)) hb); clear HO337; clear BK333; clear HB; have HO337 := n0_; have HO347 := n1_; have BK333 := n2_; have HB := n3_; clear n0_ n1_ n2_ n3_; clear hb ho39; obtain ⟨Ao40, co40, eo40⟩ := Kd.R_slice HO347.out; subst eo40) | ((with_reducible refine gate_callee (f := 99) rfl ?_); refine goesL_ (some 24) rfl rfl Tryz.func99 (by kernel_rfl) rfl #[.slice Ao40 y345.length co40] rfl (by (try simp only [List.map_toArray, List.map_cons, List.map_nil]); first | done | rfl | (simp only [List.length_drop, List.length_take]; rfl)) ?_; (with_reducible refine (index_first.calls k _ _ y345 t348 _ ?side1 ?side2 A24.out).mono ?_); (case side1 => repeat (first | exact (Kd.R_reads' HO347.out).2.2 | (with_reducible refine Kd.C_alloc ?_ _) | (with_reducible refine Kd.C_drewN ?_ _) | (with_reducible refine Kd.C_drew ?_))); (case side2 => exact (Kd.R_reads' HO347.out).2.1); rintro e w' ⟨rfl, ⟨nd, rfl⟩⟩; refine ⟨_, rfl, ?_⟩; (try (rw [drewN_self w38]; generalize hq_ : World.drewN w38 _ = w38; have n0_ : Aside0 (Kd.R k35 35 w38 w.heap.size (fun k_ => k_ ≠ gb333) (.slice Ao37 t334.length co37) t334) := ⟨by rw [← hq_]; exact (by (with_reducible repeat (first | apply Kd.R_alloc | apply Kd.R_drewN | apply Kd.R_drew)); exact Kd.R_mono HO337.out (fun _ hk => hk.2))⟩; have n1_ : Aside0 (Kd.R (Kd.int .i64) 29 w38 w.heap.size (fun _ => True) (.slice Ao40 y345.length co40) y345) := ⟨by rw [← hq_]; exact (by (with_reducible repeat (first | apply Kd.R_alloc | apply Kd.R_drewN | apply Kd.R_drew)); exact HO347.out)⟩; have n2_ : Aside0 (w38.heap[gb333]? = some (.cells #[.int .i64 0, .int .i64 0, .int .i64 0, .int .i64 0, .int .i64 0, .int .i32 0] 35 (0, 0))) := ⟨by rw [← hq_]; exact (by (with_reducible repeat (first | refine blk_drewN ?_ _ | refine blk_drew ?_ | refine blk_alloc ?_ _)); exact BK333.out)⟩; have n3_ : Aside0 (Below w.heap.size w w38) := ⟨by rw [← hq_]; exact (by repeat (first | (with_reducible first | exact HB.out | apply below_alloc | apply pw_below_drewN | apply below_drew1 | refine below_set ?_ GE333.out) | exact HB.out))⟩; clear HO337 HO347 BK333 HB hq_; have HO337 := n0_; have HO347 := n1_; have BK333 := n2_; have HB := n3_; clear n0_ n1_ n2_ n3_)); have hcz41_0 : w38.cell? ⟨gb333, 0, none⟩ = some (.int .i64 0) := (blk_cell BK333.out 0).trans rfl; have hcz41_1 : w38.cell? ⟨gb333, 1, none⟩ = some (.int .i64 0) := (blk_cell BK333.out 1).trans rfl; have hcz41_2 : w38.cell? ⟨gb333, 2, none⟩ = some (.int .i64 0) := (blk_cell BK333.out 2).trans rfl; have hcz41_3 : w38.cell? ⟨gb333, 3, none⟩ = some (.int .i64 0) := (blk_cell BK333.out 3).trans rfl; have hcz41_4 : w38.cell? ⟨gb333, 4, none⟩ = some (.int .i64 0) := (blk_cell BK333.out 4).trans rfl; have hcz41_5 : w38.cell? ⟨gb333, 5, none⟩ = some (.int .i32 0) := (blk_cell BK333.out 5).trans rfl; have hfz41_0 := blk_frozen BK333.out 0; have hfz41_1 := blk_frozen BK333.out 1; have hfz41_2 := blk_frozen BK333.out 2; have hfz41_3 := blk_frozen BK333.out 3; have hfz41_4 := blk_frozen BK333.out 4; have hfz41_5 := blk_frozen BK333.out 5))
   refine bodyPost_ret (results_ct rfl _ _ gb333 35 #[.int .i64 0, .int .i64 0, .int .i64 0, .int .i64 0, .int .i64 0, .int .i32 0] (0, 0) _ rfl (by (with_reducible repeat (first | refine blk_drewN ?_ _ | refine blk_drew ?_ | refine blk_alloc ?_ _)); refine blk_put (cs := #[.int .i64 0, .int .i64 0, .int .i64 0, .int .i64 0, .int .i64 0, .int .i32 0]) ?_ 5 _ rfl; (with_reducible repeat (first | refine blk_drewN ?_ _ | refine blk_drew ?_ | refine blk_alloc ?_ _)); refine blk_put (cs := #[.int .i64 0, .int .i64 0, .int .i64 0, .int .i64 0, .int .i64 0, .int .i32 0]) ?_ 4 _ rfl; (with_reducible repeat (first | refine blk_drewN ?_ _ | refine blk_drew ?_ | refine blk_alloc ?_ _)); refine blk_put (cs := #[.int .i64 0, .int .i64 0, .int .i64 0, .int .i64 0, .int .i64 0, .int .i32 0]) ?_ 3 _ rfl; (with_reducible repeat (first | refine blk_drewN ?_ _ | refine blk_drew ?_ | refine blk_alloc ?_ _)); refine blk_put (cs := #[.int .i64 0, .int .i64 0, .int .i64 0, .int .i64 0, .int .i64 0, .int .i32 0]) ?_ 2 _ rfl; (with_reducible repeat (first | refine blk_drewN ?_ _ | refine blk_drew ?_ | refine blk_alloc ?_ _)); refine blk_put (cs := #[.int .i64 0, .int .i64 0, .int .i64 0, .int .i64 0, .int .i64 0, .int .i32 0]) ?_ 1 _ rfl; (with_reducible repeat (first | refine blk_drewN ?_ _ | refine blk_drew ?_ | refine blk_alloc ?_ _)); refine blk_put (cs := #[.int .i64 0, .int .i64 0, .int .i64 0, .int .i64 0, .int .i64 0, .int .i32 0]) ?_ 0 _ rfl; (with_reducible repeat (first | refine blk_drewN ?_ _ | refine blk_drew ?_ | refine blk_alloc ?_ _)); exact BK333.out) Tryz.underlying35 rfl (by kernel_rfl)) rfl ?_
   exact ⟨by first | rfl | (simp [errW_none, errW_some] <;> rfl) | (simp [*, errW_none, errW_some] <;> rfl), by repeat (first | (with_reducible first | exact HB.out | apply below_alloc | apply pw_below_drewN | apply below_drew1 | refine below_set ?_ GE333.out) | exact HB.out)⟩
def redpencillaw12_sees.f (k : Nat) (l0 : List (S35)) (a1 : Int) (a2_0 : Int) (a2_1 : Int) (a2_2 : Int) (a2_3 : Int) (a2_4 : Int) (a2_5 : Int) (a3 : Int) : Option (Bool) := (index_At.f k l0 a1).bind fun bt351 => (if ((bt351.1 == a2_0 && (bt351.2.1 == a2_1)) && ((bt351.2.2.1 == a2_2 && (bt351.2.2.2.1 == a2_3)) && (bt351.2.2.2.2.1 == a2_4 && (bt351.2.2.2.2.2.1 == a2_5)))) = true then (some (bt351.2.2.2.2.2.2 == a3)) else (some false))
set_option maxHeartbeats 8000000 in
set_option maxRecDepth 100000 in
theorem redpencillaw12_sees.calls (k : Nat) (A0 : Option Addr) (c0 : Nat) (l0 : List (S35)) (a1 : Int) (a2_0 : Int) (a2_1 : Int) (a2_2 : Int) (a2_3 : Int) (a2_4 : Int) (a2_5 : Int) (a3 : Int) (r : Bool) (w : World) (hr0 : Kd.C k35 w A0 l0.length l0) (hc0 : l0.length ≤ c0) (h : redpencillaw12_sees.f k l0 a1 a2_0 a2_1 a2_2 a2_3 a2_4 a2_5 a3 = some r) :
  Calls Tryz.prog 40 #[.slice A0 l0.length c0, .int .i64 a1, .agg #[.int .i64 a2_0, .int .i64 a2_1, .int .i64 a2_2, .int .i64 a2_3, .int .i64 a2_4, .int .i32 a2_5], .int .i64 a3] w fun e w' => e = .returned (.bool r) ∧ Below w.heap.size w w' := by
 have hu35 := Tryz.underlying35
 have HR0 := Aside0.mk hr0
 have HC0 := Aside0.mk hc0
 clear hr0 hc0
 have HB := Aside0.mk (Below.refl w.heap.size w)
 have H : ((index_At.f k l0 a1).bind fun bt351 => (if ((bt351.1 == a2_0 && (bt351.2.1 == a2_1)) && ((bt351.2.2.1 == a2_2 && (bt351.2.2.2.1 == a2_3)) && (bt351.2.2.2.2.1 == a2_4 && (bt351.2.2.2.2.2.1 == a2_5)))) = true then (some (bt351.2.2.2.2.2.2 == a3)) else (some false))) = some r := h
 clear h
 replace H := Option.bind_eq_some_iff.mp H
 obtain ⟨⟨t351, t352, t353, t354, t355, t356, t357⟩, A50, H⟩ := H
 replace H : (if ((t351 == a2_0 && (t352 == a2_1)) && ((t353 == a2_2 && (t354 == a2_3)) && (t355 == a2_4 && (t356 == a2_5)))) = true then (some (t357 == a3)) else (some false)) = some r := H
 have A5 := Aside0.mk A50
 clear A50
 by_cases c6 : ((t351 == a2_0 && (t352 == a2_1)) && ((t353 == a2_2 && (t354 == a2_3)) && (t355 == a2_4 && (t356 == a2_5)))) = true
 ·
  rw [if_pos c6] at H
  have c6b0 : ((t351 == a2_0 && (t352 == a2_1)) && ((t353 == a2_2 && (t354 == a2_3)) && (t355 == a2_4 && (t356 == a2_5)))) = true := c6
  clear c6
  obtain rfl := Option.some.inj H
  go_enter Tryz.func40, Tryz.ntmps40
  go_wp2_with (first | ((with_reducible refine gate_dst (N := 6) rfl ?_); refine box_event ?hg (N := 6) ?hd (cs := #[.int .i64 a2_0, .int .i64 a2_1, .int .i64 a2_2, .int .i64 a2_3, .int .i64 a2_4, .int .i32 a2_5]) (t := 35) ?hr ?_; (case hd => rfl); (case hg => rfl); (case hr => first | (go_simp; done) | (go_simp; rfl)); intro gb350 hg w7 hbox hb; have n0_ := Aside0.mk (below_step (by repeat (first | (with_reducible first | exact HB.out | apply below_alloc | apply pw_below_drewN | apply below_drew1) | exact HB.out)) hb); have n1_ := Aside0.mk (hbox); have n2_ := Aside0.mk ((by rw [hg]; exact (below_size (by repeat (first | (with_reducible first | exact HB.out | apply below_alloc | apply pw_below_drewN | apply below_drew1) | exact HB.out))) : w.heap.size ≤ gb350)); have n3_ := Aside0.mk ((by rw [hg]; exact (below_size (by repeat (first | (with_reducible first | exact HB.out | apply below_alloc | apply pw_below_drewN | apply below_drew1) | exact HB.out))) : w.heap.size ≤ gb350)); clear HB; have HB := n0_; have BK350 := n1_; have GW350 := n2_; have GE350 := n3_; clear n0_ n1_ n2_ n3_; clear hb hbox hg) | ((with_reducible refine gate_callee (f := 57) rfl ?_); refine goesL_ (some 14) rfl rfl Tryz.func57 (by kernel_rfl) rfl #[.slice A0 l0.length c0, .int .i64 a1] rfl (by (try simp only [List.map_toArray, List.map_cons, List.map_nil]); first | done | rfl | (simp only [List.length_drop, List.length_take]; rfl)) ?_; (with_reducible refine (index_At.calls k _ _ l0 a1 t351 t352 t353 t354 t355 t356 t357 _ ?side1 ?side2 A5.out).mono ?_); (case side1 => repeat (first | exact (Kd.C_below HR0.out HB.out) | (with_reducible refine Kd.C_alloc ?_ _) | (with_reducible refine Kd.C_drewN ?_ _) | (with_reducible refine Kd.C_drew ?_))); (case side2 => exact HC0.out); rintro e w8 ⟨rfl, hb⟩; refine ⟨_, rfl, ?_⟩; have n0_ := Aside0.mk (blk_below (g := gb350) (o := .cells #[.int .i64 a2_0, .int .i64 a2_1, .int .i64 a2_2, .int .i64 a2_3, .int .i64 a2_4, .int .i32 a2_5] 35 (0, 0)) (by (with_reducible repeat (first | refine blk_drewN ?_ _ | refine blk_drew ?_ | refine blk_alloc ?_ _)); exact BK350.out) hb); have n1_ := Aside0.mk (below_step (by repeat (first | (with_reducible first | exact HB.out | apply below_alloc | apply pw_below_drewN | apply below_drew1 | refine below_set ?_ GE350.out) | exact HB.out)) hb); clear BK350; clear HB; have BK350 := n0_; have HB := n1_; clear n0_ n1_; (try clear hb); (try clear hb2); (try clear hk); (try clear hi)) | ((with_reducible refine gate_dst (N := 9) rfl ?_); refine box_event ?hg (N := 9) ?hd (cs := #[.int .i64 0, .int .i64 0, .int .i64 0, .int .i64 0, .int .i64 0, .int .i32 0]) (t := 35) ?hr ?_; (case hd => rfl); (case hg => rfl); (case hr => first | (go_simp; done) | (go_simp; rfl)); intro gb358 hg w9 hbox hb; have n0_ := Aside0.mk (blk_below (g := gb350) (o := .cells #[.int .i64 a2_0, .int .i64 a2_1, .int .i64 a2_2, .int .i64 a2_3, .int .i64 a2_4, .int .i32 a2_5] 35 (0, 0)) (by (with_reducible repeat (first | refine blk_drewN ?_ _ | refine blk_drew ?_ | refine blk_alloc ?_ _)); exact BK350.out) hb); have n1_ := Aside0.mk (below_step (by repeat (first | (with_reducible first | exact HB.out | apply below_alloc | apply pw_below_drewN | apply below_drew1 | refine below_set ?_ GE350.out) | exact HB.out)) hb); have n2_ := Aside0.mk (hbox); have n3_ := Aside0.mk ((by rw [hg]; exact (below_size (by repeat (first | (with_reducible first | exact HB.out | apply below_alloc | apply pw_below_drewN | apply below_drew1 | refine below_set ?_ GE350.out) | exact HB.out))) : w.heap.size ≤ gb358)); have n4_ := Aside0.mk ((by rw [hg]; exact (below_size (by repeat (first | (with_reducible first | exact HB.out | apply below_alloc | apply pw_below_drewN | apply below_drew1 | refine below_set ?_ GE350.out) | exact HB.out))) : w.heap.size ≤ gb358)); have n5_ := Aside0.mk ((by rw [hg]; exact Nat.ne_of_lt (blk_lt (g := gb350) (o := .cells #[.int .i64 a2_0, .int .i64 a2_1, .int .i64 a2_2, .int .i64 a2_3, .int .i64 a2_4, .int .i32 a2_5] 35 (0, 0)) (by (with_reducible repeat (first | refine blk_drewN ?_ _ | refine blk_drew ?_ | refine blk_alloc ?_ _)); exact BK350.out)) : gb350 ≠ gb358)); have n6_ := Aside0.mk ((by rw [hg]; exact Nat.ne_of_gt (blk_lt (g := gb350) (o := .cells #[.int .i64 a2_0, .int .i64 a2_1, .int .i64 a2_2, .int .i64 a2_3, .int .i64 a2_4, .int .i32 a2_5] 35 (0, 0)) (by (with_reducible repeat (first | refine blk_drewN ?_ _ | refine blk_drew ?_ | refine blk_alloc ?_ _)); exact BK350.out)) : gb358 ≠ gb350)); clear BK350; clear HB; have BK350 := n0_; have HB := n1_; have BK358 := n2_; have GW358 := n3_; have GE358 := n4_; have NB350_358 := n5_; have NB358_350 := n6_; clear n0_ n1_ n2_ n3_ n4_ n5_ n6_; clear hb hbox hg; have hnb10 := NB358_350.out; have hnc10 := NB350_358.out; have hcz11_0 : w9.cell? ⟨gb358, 0, none⟩ = some (.int .i64 0) := (blk_cell BK358.out 0).trans rfl; have hcz11_1 : w9.cell? ⟨gb358, 1, none⟩ = some (.int .i64 0) := (blk_cell BK358.out 1).trans rfl; have hcz11_2 : w9.cell? ⟨gb358, 2, none⟩ = some (.int .i64 0) := (blk_cell BK358.out 2).trans rfl; have hcz11_3 : w9.cell? ⟨gb358, 3, none⟩ = some (.int .i64 0) := (blk_cell BK358.out 3).trans rfl; have hcz11_4 : w9.cell? ⟨gb358, 4, none⟩ = some (.int .i64 0) := (blk_cell BK358.out 4).trans rfl; have hcz11_5 : w9.cell? ⟨gb358, 5, none⟩ = some (.int .i32 0) := (blk_cell BK358.out 5).trans rfl; have hfz11_0 := blk_frozen BK358.out 0; have hfz11_1 := blk_frozen BK358.out 1; have hfz11_2 := blk_frozen BK358.out 2; have hfz11_3 := blk_frozen BK358.out 3; have hfz11_4 := blk_frozen BK358.out 4; have hfz11_5 := blk_frozen BK358.out 5; have hcz12_0 : w9.cell? ⟨gb350, 0, none⟩ = some (.int .i64 a2_0) := (blk_cell BK350.out 0).trans rfl; have hcz12_1 : w9.cell? ⟨gb350, 1, none⟩ = some (.int .i64 a2_1) := (blk_cell BK350.out 1).trans rfl; have hcz12_2 : w9.cell? ⟨gb350, 2, none⟩ = some (.int .i64 a2_2) := (blk_cell BK350.out 2).trans rfl; have hcz12_3 : w9.cell? ⟨gb350, 3, none⟩ = some (.int .i64 a2_3) := (blk_cell BK350.out 3).trans rfl; have hcz12_4 : w9.cell? ⟨gb350, 4, none⟩ = some (.int .i64 a2_4) := (blk_cell BK350.out 4).trans rfl; have hcz12_5 : w9.cell? ⟨gb350, 5, none⟩ = some (.int .i32 a2_5) := (blk_cell BK350.out 5).trans rfl; have hfz12_0 := blk_frozen BK350.out 0; have hfz12_1 := blk_frozen BK350.out 1; have hfz12_2 := blk_frozen BK350.out 2; have hfz12_3 := blk_frozen BK350.out 3; have hfz12_4 := blk_frozen BK350.out 4; have hfz12_5 := blk_frozen BK350.out 5))
  go_ret
  exact ⟨by first | rfl | (simp [errW_none, errW_some] <;> rfl) | (simp [*, errW_none, errW_some] <;> rfl), by repeat (first | (with_reducible first | exact HB.out | apply below_alloc | apply pw_below_drewN | apply below_drew1 | refine below_set ?_ GE350.out | refine below_set ?_ GE358.out) | exact HB.out)⟩
 ·
  rw [if_neg c6] at H
  have c6b0 : ((t351 == a2_0 && (t352 == a2_1)) && ((t353 == a2_2 && (t354 == a2_3)) && (t355 == a2_4 && (t356 == a2_5)))) = false := by simpa using c6
  clear c6
  obtain rfl := Option.some.inj H
  go_enter Tryz.func40, Tryz.ntmps40
  go_wp2_with (first | ((with_reducible refine gate_dst (N := 6) rfl ?_); refine box_event ?hg (N := 6) ?hd (cs := #[.int .i64 a2_0, .int .i64 a2_1, .int .i64 a2_2, .int .i64 a2_3, .int .i64 a2_4, .int .i32 a2_5]) (t := 35) ?hr ?_; (case hd => rfl); (case hg => rfl); (case hr => first | (go_simp; done) | (go_simp; rfl)); intro gb350 hg w13 hbox hb; have n0_ := Aside0.mk (below_step (by repeat (first | (with_reducible first | exact HB.out | apply below_alloc | apply pw_below_drewN | apply below_drew1) | exact HB.out)) hb); have n1_ := Aside0.mk (hbox); have n2_ := Aside0.mk ((by rw [hg]; exact (below_size (by repeat (first | (with_reducible first | exact HB.out | apply below_alloc | apply pw_below_drewN | apply below_drew1) | exact HB.out))) : w.heap.size ≤ gb350)); have n3_ := Aside0.mk ((by rw [hg]; exact (below_size (by repeat (first | (with_reducible first | exact HB.out | apply below_alloc | apply pw_below_drewN | apply below_drew1) | exact HB.out))) : w.heap.size ≤ gb350)); clear HB; have HB := n0_; have BK350 := n1_; have GW350 := n2_; have GE350 := n3_; clear n0_ n1_ n2_ n3_; clear hb hbox hg) | ((with_reducible refine gate_callee (f := 57) rfl ?_); refine goesL_ (some 14) rfl rfl Tryz.func57 (by kernel_rfl) rfl #[.slice A0 l0.length c0, .int .i64 a1] rfl (by (try simp only [List.map_toArray, List.map_cons, List.map_nil]); first | done | rfl | (simp only [List.length_drop, List.length_take]; rfl)) ?_; (with_reducible refine (index_At.calls k _ _ l0 a1 t351 t352 t353 t354 t355 t356 t357 _ ?side1 ?side2 A5.out).mono ?_); (case side1 => repeat (first | exact (Kd.C_below HR0.out HB.out) | (with_reducible refine Kd.C_alloc ?_ _) | (with_reducible refine Kd.C_drewN ?_ _) | (with_reducible refine Kd.C_drew ?_))); (case side2 => exact HC0.out); rintro e w14 ⟨rfl, hb⟩; refine ⟨_, rfl, ?_⟩; have n0_ := Aside0.mk (blk_below (g := gb350) (o := .cells #[.int .i64 a2_0, .int .i64 a2_1, .int .i64 a2_2, .int .i64 a2_3, .int .i64 a2_4, .int .i32 a2_5] 35 (0, 0)) (by (with_reducible repeat (first | refine blk_drewN ?_ _ | refine blk_drew ?_ | refine blk_alloc ?_ _)); exact BK350.out) hb); have n1_ := Aside0.mk (below_step (by repeat (first | (with_reducible first | exact HB.out | apply below_alloc | apply pw_below_drewN | apply below_drew1 | refine below_set ?_ GE350.out) | exact HB.out)) hb); clear BK350; clear HB; have BK350 := n0_; have HB := n1_; clear n0_ n1_; (try clear hb); (try clear hb2); (try clear hk); (try clear hi)) | ((with_reducible refine gate_dst (N := 9) rfl ?_); refine box_event ?hg (N := 9) ?hd (cs := #[.int .i64 0, .int .i64 0, .int .i64 0, .int .i64 0, .int .i64 0, .int .i32 0]) (t := 35) ?hr ?_; (case hd => rfl); (case hg => rfl); (case hr => first | (go_simp; done) | (go_simp; rfl)); intro gb358 hg w15 hbox hb; have n0_ := Aside0.mk (blk_below (g := gb350) (o := .cells #[.int .i64 a2_0, .int .i64 a2_1, .int .i64 a2_2, .int .i64 a2_3, .int .i64 a2_4, .int .i32 a2_5] 35 (0, 0)) (by (with_reducible repeat (first | refine blk_drewN ?_ _ | refine blk_drew ?_ | refine blk_alloc ?_ _)); exact BK350.out) hb); have n1_ := Aside0.mk (below_step (by repeat (first | (with_reducible first | exact HB.out | apply below_alloc | apply pw_below_drewN | apply below_drew1 | refine below_set ?_ GE350.out) | exact HB.out)) hb); have n2_ := Aside0.mk (hbox); have n3_ := Aside0.mk ((by rw [hg]; exact (below_size (by repeat (first | (with_reducible first | exact HB.out | apply below_alloc | apply pw_below_drewN | apply below_drew1 | refine below_set ?_ GE350.out) | exact HB.out))) : w.heap.size ≤ gb358)); have n4_ := Aside0.mk ((by rw [hg]; exact (below_size (by repeat (first | (with_reducible first | exact HB.out | apply below_alloc | apply pw_below_drewN | apply below_drew1 | refine below_set ?_ GE350.out) | exact HB.out))) : w.heap.size ≤ gb358)); have n5_ := Aside0.mk ((by rw [hg]; exact Nat.ne_of_lt (blk_lt (g := gb350) (o := .cells #[.int .i64 a2_0, .int .i64 a2_1, .int .i64 a2_2, .int .i64 a2_3, .int .i64 a2_4, .int .i32 a2_5] 35 (0, 0)) (by (with_reducible repeat (first | refine blk_drewN ?_ _ | refine blk_drew ?_ | refine blk_alloc ?_ _)); exact BK350.out)) : gb350 ≠ gb358)); have n6_ := Aside0.mk ((by rw [hg]; exact Nat.ne_of_gt (blk_lt (g := gb350) (o := .cells #[.int .i64 a2_0, .int .i64 a2_1, .int .i64 a2_2, .int .i64 a2_3, .int .i64 a2_4, .int .i32 a2_5] 35 (0, 0)) (by (with_reducible repeat (first | refine blk_drewN ?_ _ | refine blk_drew ?_ | refine blk_alloc ?_ _)); exact BK350.out)) : gb358 ≠ gb350)); clear BK350; clear HB; have BK350 := n0_; have HB := n1_; have BK358 := n2_; have GW358 := n3_; have GE358 := n4_; have NB350_358 := n5_; have NB358_350 := n6_; clear n0_ n1_ n2_ n3_ n4_ n5_ n6_; clear hb hbox hg; have hnb16 := NB358_350.out; have hnc16 := NB350_358.out; have hcz17_0 : w15.cell? ⟨gb358, 0, none⟩ = some (.int .i64 0) := (blk_cell BK358.out 0).trans rfl; have hcz17_1 : w15.cell? ⟨gb358, 1, none⟩ = some (.int .i64 0) := (blk_cell BK358.out 1).trans rfl; have hcz17_2 : w15.cell? ⟨gb358, 2, none⟩ = some (.int .i64 0) := (blk_cell BK358.out 2).trans rfl; have hcz17_3 : w15.cell? ⟨gb358, 3, none⟩ = some (.int .i64 0) := (blk_cell BK358.out 3).trans rfl; have hcz17_4 : w15.cell? ⟨gb358, 4, none⟩ = some (.int .i64 0) := (blk_cell BK358.out 4).trans rfl; have hcz17_5 : w15.cell? ⟨gb358, 5, none⟩ = some (.int .i32 0) := (blk_cell BK358.out 5).trans rfl; have hfz17_0 := blk_frozen BK358.out 0; have hfz17_1 := blk_frozen BK358.out 1; have hfz17_2 := blk_frozen BK358.out 2; have hfz17_3 := blk_frozen BK358.out 3; have hfz17_4 := blk_frozen BK358.out 4; have hfz17_5 := blk_frozen BK358.out 5; have hcz18_0 : w15.cell? ⟨gb350, 0, none⟩ = some (.int .i64 a2_0) := (blk_cell BK350.out 0).trans rfl; have hcz18_1 : w15.cell? ⟨gb350, 1, none⟩ = some (.int .i64 a2_1) := (blk_cell BK350.out 1).trans rfl; have hcz18_2 : w15.cell? ⟨gb350, 2, none⟩ = some (.int .i64 a2_2) := (blk_cell BK350.out 2).trans rfl; have hcz18_3 : w15.cell? ⟨gb350, 3, none⟩ = some (.int .i64 a2_3) := (blk_cell BK350.out 3).trans rfl; have hcz18_4 : w15.cell? ⟨gb350, 4, none⟩ = some (.int .i64 a2_4) := (blk_cell BK350.out 4).trans rfl; have hcz18_5 : w15.cell? ⟨gb350, 5, none⟩ = some (.int .i32 a2_5) := (blk_cell BK350.out 5).trans rfl; have hfz18_0 := blk_frozen BK350.out 0; have hfz18_1 := blk_frozen BK350.out 1; have hfz18_2 := blk_frozen BK350.out 2; have hfz18_3 := blk_frozen BK350.out 3; have hfz18_4 := blk_frozen BK350.out 4; have hfz18_5 := blk_frozen BK350.out 5))
  go_ret
  exact ⟨by first | rfl | (simp [errW_none, errW_some] <;> rfl) | (simp [*, errW_none, errW_some] <;> rfl), by repeat (first | (with_reducible first | exact HB.out | apply below_alloc | apply pw_below_drewN | apply below_drew1 | refine below_set ?_ GE350.out | refine below_set ?_ GE358.out) | exact HB.out)⟩
end Go.Proofs.YtjlpaagnajmogaaGreat.PWalk
end
section
namespace Go.Proofs.YtjlpaagnajmogaaGreat.PWalk
open Go.RowKit Go.Proofs.YtjlpaagnajmogaaGreatW.PrintWords Go.Proofs.YtjlpaagnajmogaaGreatW.PrintLast Go.Proofs.YtjlpaagnajmogaaGreatW.PrintMore
set_option linter.unusedVariables false
set_option linter.unusedSimpArgs false
open Go.Shelf
attribute [local go_sem] Oper.semAt_some
set_option maxHeartbeats 400000 in
theorem IndexFuncBy.calls (p : Node → Bool) (fn : Nat) (rv : Value) (A0 : Option Addr) (c0 : Nat) (l0 : List Node) (w : World) (hr0 : Kd.C k35 w A0 l0.length l0) (hc0 : l0.length ≤ c0)
  (hcall : ∀ args W, (callFunc fn args).run Tryz.prog W = .ok (.enter fn args) W)
  (hp : ∀ x W, Calls Tryz.prog fn #[rv, vNode x] W fun e W' => e = .returned (.bool (p x)) ∧ Below W.heap.size W W') :
  Calls Tryz.prog 117 #[.slice A0 l0.length c0, .func (.func fn) #[rv] #[]] w fun e w' => e = .returned (.int .i64 (idxFrom p l0)) ∧ Below w.heap.size w w' := by
 have hm := Kd.C_max hr0
 have hu := Tryz.underlying35
 have HR := Aside0.mk hr0
 have HP := Aside0.mk hp
 have HC := Aside0.mk hc0
 clear hr0 hp hc0
 go_enter Tryz.func117, Tryz.ntmps117
 go_wp2
 go_loopw [5, 8] (fun _ i wr => ∃ k : Nat, k ≤ l0.length ∧ i = .int .i64 k ∧ Aside0 (∀ j y, j < k → l0[j]? = some y → p y = false) ∧ Aside0 (Below w.heap.size w wr)) (fun _ i _ => l0.length - (intOf i).toNat)
 case atStart => exact ⟨0, Nat.zero_le _, rfl, ⟨fun j y hj => absurd hj (Nat.not_lt_zero _)⟩, ⟨Below.refl _ _⟩⟩
 case round =>
  obtain ⟨k, hk, rfl, hno, hb⟩ := hrel
  by_cases hlt : k < l0.length
  ·
   obtain ⟨x, hx⟩ : ∃ x, Aside0 (l0[k]? = some x) := ⟨_, ⟨List.getElem?_eq_getElem hlt⟩⟩
   obtain ⟨ad, e, h0, h1, h2, h3, h4, h5⟩ := node_at HR.out hb.out k x hx.out
   subst e
   cases hpx : p x with
   | true =>
    have HX := Aside0.mk hpx
    clear hpx
    go_wp2
    refine (HP.out x _).mono ?_
    rintro e W' ⟨rfl, hb2⟩
    rw [HX.out]
    go_wp2
    go_ret
    exact ⟨by rw [idxFrom_at hx.out HX.out hno.out]; rfl, below_then hb.out hb.out.size hb2⟩
   | false =>
    have HX := Aside0.mk hpx
    clear hpx
    go_wp2
    refine (HP.out x _).mono ?_
    rintro e W' ⟨rfl, hb2⟩
    rw [HX.out]
    go_wp2
    go_roundw
    case rel => exact ⟨k + 1, by omega, by go_num, ⟨no_step hx.out HX.out hno.out⟩, ⟨below_then hb.out hb.out.size hb2⟩⟩
    case measure => simp [intOf]; omega
  ·
   go_wp2
   go_ret
   obtain rfl : k = l0.length := by omega
   exact ⟨by rw [idxFrom_none hno.out]; rfl, hb.out⟩
def dotIs (d : Dot) (x : Node) : Bool := x.f0.f0 == d.f0 && x.f0.f1 == d.f1
set_option maxHeartbeats 400000 in
set_option maxRecDepth 100000 in
theorem by_call (d : Dot) (x : Node) (W : World) : Calls Tryz.prog 118 #[vDot d, vNode x] W fun e W' => e = .returned (.bool (dotIs d x)) ∧ Below W.heap.size W W' := by
 have hu := Tryz.underlying35
 have hu2 := Tryz.underlying24
 have hu3 := Tryz.underlying136
 go_enter Tryz.func118, Tryz.ntmps118
 go_wp2
 all_goals (go_ret; exact ⟨by first | rfl | (simp_all [dotIs]; done), below_alloc (below_alloc (Below.refl _ W) _) _⟩)
theorem by_enters : ∀ args W, (callFunc 118 args).run Tryz.prog W = .ok (.enter 118 args) W := enters_of Tryz.func118 (by kernel_rfl) rfl
def index_Of.f (l0 : List Node) (a1_0 a1_1 : Int) : Option (Int × Int) :=
 if l0.length ≤ 1000000 then some (if storeOk l0 = true ∧ dotOk ⟨a1_0, a1_1⟩ = true then (if idxFrom (dotIs ⟨a1_0, a1_1⟩) (visOf l0) < 0 then (0, 9) else (idxFrom (dotIs ⟨a1_0, a1_1⟩) (visOf l0), 0)) else (0, 2)) else none
theorem vis_is {ll : List Node} (hl : ll.length ≤ 1000000) : index_visible.f ll = some (if storeOk ll = true then (visOf ll, 0) else ([], 2)) := by
 unfold index_visible.f
 rw [if_pos hl]
theorem when_is (b : Bool) (n : Int) : index_when.f b n = some (if b = true then n else 0) := by
 unfold index_when.f
 cases b <;> rfl
theorem first3_is (a b c : Int) : index_first.f 10 [a, b, c] = some (if a = 0 then (if b = 0 then c else b) else a) := by
 by_cases ha : a = 0
 ·
  by_cases hb : b = 0
  ·
   by_cases hc : c = 0
   ·
    subst ha hb hc; kernel_rfl
   ·
    subst ha hb
    simp [index_first.f, index_first.l0, rd, wrap64, hc]
  ·
   subst ha
   simp [index_first.f, index_first.l0, rd, wrap64, hb]
 ·
  simp [index_first.f, index_first.l0, rd, ha]
theorem first2_is (a b : Int) : index_first.f 10 [a, b] = some (if a = 0 then b else a) := by
 by_cases ha : a = 0
 ·
  by_cases hb : b = 0
  ·
   subst ha hb; kernel_rfl
  ·
   subst ha
   simp [index_first.f, index_first.l0, rd, wrap64, hb]
 ·
  simp [index_first.f, index_first.l0, rd, ha]
theorem errs_C {W : World} {g : Nat} {t : TypeId} {zs : List Int} (h : W.heap[g]? = some (.cells (zs.map (Value.int .i64)).toArray t (0, 0))) (hl : zs.length ≤ 1000000) : Kd.C (Kd.int .i64) W (some ⟨g, 0, none⟩) zs.length zs := by
 have hr : ReadsInt W .i64 (some ⟨g, 0, none⟩) zs.length zs := ⟨rfl, by omega, fun _ => ⟨_, rfl, fun j hj => by
  rw [show (⟨g, 0, none⟩ : Addr).add j = ⟨g, j, none⟩ by rw [add_lit, Nat.zero_add], blk_cell h]
  simp [hj]⟩⟩
 exact Kd.C_of_reads (d := (0 : Int)) (h1 := fun _ => rfl) hr
theorem when_out {b : Bool} {n r : Int} (h : index_when.f b n = some r) : r = if b = true then n else 0 := by rw [when_is] at h; exact (Option.some.inj h).symm
theorem first3_out {a b c r : Int} (h : index_first.f 10 [a, b, c] = some r) : r = if a = 0 then (if b = 0 then c else b) else a := by rw [first3_is] at h; exact (Option.some.inj h).symm
theorem of_end {b b2 : Bool} {ev i n1 n2 r3 r1 r2 i' m : Int} (hv : (b = true → i = i' ∧ ev = 0) ∧ (b = false → ev = 2)) (h1 : n1 = if (!b2) = true then 2 else 0) (h2 : n2 = if decide (i < 0) = true then 9 else 0) (h3 : r3 = if ev = 0 then (if n1 = 0 then n2 else n1) else ev)
  (hh : (if b = true ∧ b2 = true then (if i' < 0 then ((0 : Int), (9 : Int)) else (m, 0)) else (0, 2)) = (r1, r2)) : (r3 = 0 → 0 ≤ i ∧ b = true ∧ r1 = m ∧ r2 = 0) ∧ (¬ r3 = 0 → r1 = 0 ∧ r2 = r3) := by
 cases b with
 | false =>
  have he := hv.2 rfl
  subst he
  rw [if_neg (by simp)] at hh
  cases hh
  subst h3
  simp
 | true =>
  obtain ⟨rfl, rfl⟩ := hv.1 rfl
  cases b2 with
  | false =>
   rw [if_neg (by simp)] at hh
   cases hh
   subst h1 h3
   simp
  | true =>
   rw [if_pos (by simp)] at hh
   subst h1
   by_cases hi : i < 0
   ·
    rw [if_pos hi] at hh
    cases hh
    subst h2 h3
    simp [hi]
   ·
    rw [if_neg hi] at hh
    cases hh
    subst h2 h3
    simp [hi]
    omega
set_option maxHeartbeats 1000000 in
set_option maxRecDepth 100000 in
theorem index_Of.calls (A0 : Option Addr) (c0 : Nat) (ll : List Node) (a1_0 a1_1 : Int) (r1 r2 : Int) (w : World) (hr0 : Kd.C k35 w A0 ll.length ll) (hc0 : ll.length ≤ c0) (h : index_Of.f ll a1_0 a1_1 = some (r1, r2)) :
  Calls Tryz.prog 83 #[.slice A0 ll.length c0, .agg #[.int .i64 a1_0, .int .i64 a1_1]] w fun e w' => e = .returned (.tuple #[.int .i64 r1, .int .i64 r2]) ∧ Below w.heap.size w w' := by
 unfold index_Of.f at h
 by_cases hl : ll.length ≤ 1000000
 rotate_left
 ·
  rw [if_neg hl] at h; cases h
 rw [if_pos hl] at h
 have HH := Aside0.mk (Option.some.inj h)
 have HR := Aside0.mk hr0
 have HC := Aside0.mk hc0
 have HL := Aside0.mk hl
 clear h hr0 hc0 hl
 obtain ⟨d, hd⟩ : ∃ d : Dot, d = ⟨a1_0, a1_1⟩ := ⟨_, rfl⟩
 rw [← hd] at HH
 obtain rfl : a1_0 = d.f0 := by rw [hd]
 obtain rfl : a1_1 = d.f1 := by rw [hd]
 clear hd
 obtain ⟨b, Hb⟩ : ∃ b, Aside0 (storeOk ll = b) := ⟨_, ⟨rfl⟩⟩
 obtain ⟨b2, Hb2⟩ : ∃ b, Aside0 (dotOk d = b) := ⟨_, ⟨rfl⟩⟩
 obtain ⟨vl, ev, HV⟩ : ∃ vl ev, Aside0 (index_visible.f ll = some (vl, ev) ∧ (b = true → vl = visOf ll ∧ ev = 0) ∧ (b = false → vl = [] ∧ ev = 2)) := by
  rw [vis_is HL.out]
  cases b with
  | true => exact ⟨visOf ll, 0, ⟨by rw [if_pos Hb.out], fun _ => ⟨rfl, rfl⟩, fun h => (by cases h)⟩⟩
  | false => exact ⟨[], 2, ⟨by rw [if_neg (by rw [Hb.out]; decide)], fun h => (by cases h), fun _ => ⟨rfl, rfl⟩⟩⟩
 rw [Hb.out, Hb2.out] at HH
 have HX := Aside0.mk (blk_new w (dotC d))
 go_enter Tryz.func83, Tryz.ntmps83
 go_wp2_with fail
 refine (index_visible.calls A0 _ ll vl ev _ (Kd.C_below HR.out (below_alloc (Below.refl _ w) (dotC d))) HC.out HV.out.1).mono ?_
 rintro e W ⟨v, rfl, hR, hb⟩
 obtain ⟨A, c, rfl⟩ := RN.slice hR
 have HVC := Aside0.mk (Kd.R_reads' hR).2
 have HX := Aside0.mk (blk_keep HX.out hb)
 have HB := Aside0.mk (below_more (below_alloc (Below.refl _ w) (dotC d)) hb)
 clear hR hb
 obtain ⟨i, Hi⟩ : ∃ i, Aside0 (idxFrom (dotIs d) vl = i) := ⟨_, ⟨rfl⟩⟩
 have HI := Aside0.mk (IndexFuncBy.calls (dotIs d) 118 (vDot d) A c vl W HVC.out.2 HVC.out.1 by_enters (by_call d))
 rw [Hi.out] at HI
 have x0 : W.cell? ⟨w.heap.size, 0, none⟩ = _ := (blk_cell HX.out 0).trans rfl
 have x1 : W.cell? ⟨w.heap.size, 1, none⟩ = _ := (blk_cell HX.out 1).trans rfl
 go_wp2_with fail
 refine HI.out.mono ?_
 rintro e W2 ⟨rfl, hb⟩
 have HX := Aside0.mk (blk_keep HX.out hb)
 have HB := Aside0.mk (below_more HB.out hb)
 clear hb x0 x1 HI HVC
 have x0 : W2.cell? ⟨w.heap.size, 0, none⟩ = _ := (blk_cell HX.out 0).trans rfl
 have x1 : W2.cell? ⟨w.heap.size, 1, none⟩ = _ := (blk_cell HX.out 1).trans rfl
 obtain ⟨n1, H1⟩ : ∃ n, Aside0 (index_when.f (!b2) 2 = some n) := ⟨_, ⟨when_is _ _⟩⟩
 obtain ⟨n2, H2⟩ : ∃ n, Aside0 (index_when.f (decide (i < 0)) 9 = some n) := ⟨_, ⟨when_is _ _⟩⟩
 obtain ⟨r3, H3⟩ : ∃ n, Aside0 (index_first.f 10 [ev, n1, n2] = some n) := ⟨_, ⟨first3_is _ _ _⟩⟩
 go_wp2_with fail
 refine (dot_Valid.calls d.f0 d.f1 b2 W2 (by rw [dotValid_is, Hb2.out])).mono ?_
 rintro e W3 ⟨rfl, hb⟩
 have HB := Aside0.mk (below_more HB.out hb)
 clear hb x0 x1 HX
 go_wp2_with fail
 refine (index_when.calls _ _ n1 _ H1.out).mono ?_
 rintro e W4 ⟨rfl, hb⟩
 have HB := Aside0.mk (below_more HB.out hb.below)
 clear hb
 go_wp2_with fail
 refine (index_when.calls _ _ n2 _ H2.out).mono ?_
 rintro e W5 ⟨rfl, hb⟩
 have HB := Aside0.mk (below_more HB.out hb.below)
 clear hb
 go_wp2_with fail
 refine (index_first.calls 10 (some ⟨W5.heap.size, 0, none⟩) 3 [ev, n1, n2] r3 _ (errs_C (zs := [ev, n1, n2]) (blk_new W5 _) (by show 3 ≤ 1000000; omega)) (Nat.le_refl 3) H3.out).mono ?_
 rintro e W6 ⟨rfl, hb⟩
 have HB := Aside0.mk (below_more (below_alloc HB.out _) hb.below)
 have HE := Aside0.mk (of_end (b := b) (b2 := b2) (ev := ev) (i := i) (i' := idxFrom (dotIs d) (visOf ll)) (m := idxFrom (dotIs d) (visOf ll)) ⟨fun e => ⟨by rw [← Hi.out, (HV.out.2.1 e).1], (HV.out.2.1 e).2⟩, fun e => (HV.out.2.2 e).2⟩ (when_out H1.out) (when_out H2.out) (first3_out H3.out) HH.out)
 clear hb
 by_cases hr : r3 = 0
 ·
  obtain ⟨_, hbt, e1, e2⟩ := HE.out.1 hr
  have HI2 := Aside0.mk (show idxFrom (dotIs d) (visOf ll) = i by rw [← Hi.out, (HV.out.2.1 hbt).1])
  rw [HI2.out] at e1
  subst e1 e2
  have hr1 : (r3 != 0) = false := by simp [hr]
  clear hr hbt
  go_wp2
  go_ret2
  exact ⟨rfl, HB.out⟩
 ·
  obtain ⟨e1, e2⟩ := HE.out.2 hr
  subst e1 e2
  have hr1 : (r2 != 0) = true := by simp [hr]
  clear hr
  go_wp2
  go_ret2
  exact ⟨rfl, HB.out⟩
def index_Before.f (l0 : List Node) (a1_0 a1_1 : Int) : Option (Int × Int) :=
 if l0.length ≤ 1000000 then some (if storeOk l0 = true ∧ dotOk ⟨a1_0, a1_1⟩ = true then (if idxFrom (dotIs ⟨a1_0, a1_1⟩) (nds (ordOf l0)) < 0 then (0, 9) else (((aliveOf ((nds (ordOf l0)).take (idxFrom (dotIs ⟨a1_0, a1_1⟩) (nds (ordOf l0))).toNat)).length : Int), 0)) else (0, 2)) else none
theorem ord_is {ll : List Node} (hl : ll.length ≤ 1000000) : walk_Order.f ll = some (if storeOk ll = true then (nds (ordOf ll), 0) else ([], 2)) := by
 unfold walk_Order.f
 rw [if_pos hl]
 rfl
set_option maxHeartbeats 1000000 in
set_option maxRecDepth 100000 in
theorem index_Before.calls (A0 : Option Addr) (c0 : Nat) (ll : List Node) (a1_0 a1_1 : Int) (r1 r2 : Int) (w : World) (hr0 : Kd.C k35 w A0 ll.length ll) (hc0 : ll.length ≤ c0) (h : index_Before.f ll a1_0 a1_1 = some (r1, r2)) :
  Calls Tryz.prog 84 #[.slice A0 ll.length c0, .agg #[.int .i64 a1_0, .int .i64 a1_1]] w fun e w' => e = .returned (.tuple #[.int .i64 r1, .int .i64 r2]) ∧ Below w.heap.size w w' := by
 unfold index_Before.f at h
 by_cases hl : ll.length ≤ 1000000
 rotate_left
 ·
  rw [if_neg hl] at h; cases h
 rw [if_pos hl] at h
 have HH := Aside0.mk (Option.some.inj h)
 have HR := Aside0.mk hr0
 have HC := Aside0.mk hc0
 have HL := Aside0.mk hl
 clear h hr0 hc0 hl
 obtain ⟨d, hd⟩ : ∃ d : Dot, d = ⟨a1_0, a1_1⟩ := ⟨_, rfl⟩
 rw [← hd] at HH
 obtain rfl : a1_0 = d.f0 := by rw [hd]
 obtain rfl : a1_1 = d.f1 := by rw [hd]
 clear hd
 obtain ⟨b, Hb⟩ : ∃ b, Aside0 (storeOk ll = b) := ⟨_, ⟨rfl⟩⟩
 obtain ⟨b2, Hb2⟩ : ∃ b, Aside0 (dotOk d = b) := ⟨_, ⟨rfl⟩⟩
 obtain ⟨vl, ev, HV⟩ : ∃ vl ev, Aside0 (walk_Order.f ll = some (vl, ev) ∧ (b = true → vl = nds (ordOf ll) ∧ ev = 0) ∧ (b = false → vl = [] ∧ ev = 2)) := by
  rw [ord_is HL.out]
  cases b with
  | true => exact ⟨nds (ordOf ll), 0, ⟨by rw [if_pos Hb.out], fun _ => ⟨rfl, rfl⟩, fun h => (by cases h)⟩⟩
  | false => exact ⟨[], 2, ⟨by rw [if_neg (by rw [Hb.out]; decide)], fun h => (by cases h), fun _ => ⟨rfl, rfl⟩⟩⟩
 rw [Hb.out, Hb2.out] at HH
 have HX := Aside0.mk (blk_new w (dotC d))
 go_enter Tryz.func84, Tryz.ntmps84
 go_wp2_with fail
 refine (walk_Order.calls A0 _ ll vl ev _ (Kd.C_below HR.out (below_alloc (Below.refl _ w) (dotC d))) HC.out HV.out.1).mono ?_
 rintro e W ⟨v, rfl, hR, hb⟩
 obtain ⟨A, c, rfl⟩ := RN.slice hR
 have HVC := Aside0.mk (Kd.R_reads' hR).2
 have HRO := Aside0.mk hR
 have HX := Aside0.mk (blk_keep HX.out hb)
 have HB := Aside0.mk (below_more (below_alloc (Below.refl _ w) (dotC d)) hb)
 clear hR hb
 obtain ⟨i, Hi⟩ : ∃ i, Aside0 (idxFrom (dotIs d) vl = i) := ⟨_, ⟨rfl⟩⟩
 have HI := Aside0.mk (IndexFuncBy.calls (dotIs d) 118 (vDot d) A c vl W HVC.out.2 HVC.out.1 by_enters (by_call d))
 rw [Hi.out] at HI
 have x0 : W.cell? ⟨w.heap.size, 0, none⟩ = _ := (blk_cell HX.out 0).trans rfl
 have x1 : W.cell? ⟨w.heap.size, 1, none⟩ = _ := (blk_cell HX.out 1).trans rfl
 go_wp2_with fail
 refine HI.out.mono ?_
 rintro e W2 ⟨rfl, hb⟩
 have HX := Aside0.mk (blk_keep HX.out hb)
 have HB := Aside0.mk (below_more HB.out hb)
 have HRO := Aside0.mk (own_more HRO.out hb)
 clear hb x0 x1 HI HVC
 have x0 : W2.cell? ⟨w.heap.size, 0, none⟩ = _ := (blk_cell HX.out 0).trans rfl
 have x1 : W2.cell? ⟨w.heap.size, 1, none⟩ = _ := (blk_cell HX.out 1).trans rfl
 obtain ⟨n1, H1⟩ : ∃ n, Aside0 (index_when.f (!b2) 2 = some n) := ⟨_, ⟨when_is _ _⟩⟩
 obtain ⟨n2, H2⟩ : ∃ n, Aside0 (index_when.f (decide (i < 0)) 9 = some n) := ⟨_, ⟨when_is _ _⟩⟩
 obtain ⟨r3, H3⟩ : ∃ n, Aside0 (index_first.f 10 [ev, n1, n2] = some n) := ⟨_, ⟨first3_is _ _ _⟩⟩
 go_wp2_with fail
 refine (dot_Valid.calls d.f0 d.f1 b2 W2 (by rw [dotValid_is, Hb2.out])).mono ?_
 rintro e W3 ⟨rfl, hb⟩
 have HB := Aside0.mk (below_more HB.out hb)
 have HRO := Aside0.mk (own_more HRO.out hb)
 clear hb x0 x1 HX
 go_wp2_with fail
 refine (index_when.calls _ _ n1 _ H1.out).mono ?_
 rintro e W4 ⟨rfl, hb⟩
 have HB := Aside0.mk (below_more HB.out hb.below)
 have HRO := Aside0.mk (own_more HRO.out hb.below)
 clear hb
 go_wp2_with fail
 refine (index_when.calls _ _ n2 _ H2.out).mono ?_
 rintro e W5 ⟨rfl, hb⟩
 have HB := Aside0.mk (below_more HB.out hb.below)
 have HRO := Aside0.mk (own_more HRO.out hb.below)
 clear hb
 go_wp2_with fail
 refine (index_first.calls 10 (some ⟨W5.heap.size, 0, none⟩) 3 [ev, n1, n2] r3 _ (errs_C (zs := [ev, n1, n2]) (blk_new W5 _) (by show 3 ≤ 1000000; omega)) (Nat.le_refl 3) H3.out).mono ?_
 rintro e W6 ⟨rfl, hb⟩
 have HB := Aside0.mk (below_more (below_alloc HB.out _) hb.below)
 have HRO := Aside0.mk (own_more (own_more HRO.out (below_alloc (Below.refl _ W5) _)) hb.below)
 have HE := Aside0.mk (of_end (b := b) (b2 := b2) (ev := ev) (i := i) (i' := idxFrom (dotIs d) (nds (ordOf ll))) (m := ((aliveOf ((nds (ordOf ll)).take (idxFrom (dotIs d) (nds (ordOf ll))).toNat)).length : Int)) ⟨fun e => ⟨by rw [← Hi.out, (HV.out.2.1 e).1], (HV.out.2.1 e).2⟩, fun e => (HV.out.2.2 e).2⟩ (when_out H1.out) (when_out H2.out) (first3_out H3.out) HH.out)
 clear hb
 by_cases hr : r3 = 0
 ·
  obtain ⟨hi0, hbt, e1, e2⟩ := HE.out.1 hr
  have hvl := (HV.out.2.1 hbt).1
  rw [← hvl, Hi.out] at e1
  subst e2
  have hr1 : (r3 != 0) = false := by simp [hr]
  rcases idxFrom_cases (dotIs d) vl with ⟨h1, _⟩ | ⟨k, x, hk, h1, _, _⟩
  ·
   rw [Hi.out] at h1; omega
  rw [Hi.out] at h1
  subst h1
  have hkl := (List.getElem?_eq_some_iff.1 hk).1
  obtain ⟨g, rfl⟩ : ∃ g, A = some ⟨g, 0, none⟩ := by
   obtain ⟨g, cap, h1, _⟩ := Kd.R_form HRO.out (by omega)
   cases h1
   exact ⟨g, rfl⟩
  obtain ⟨_, cur, _, _, hlc, hcm, _, _⟩ := R_row HRO.out
  have HRT := Aside0.mk (R_tk HRO.out (show k ≤ vl.length by omega))
  have hle : vl.length ≤ 1000000 := by
   have := ord_le (store_of (Hb.out.trans hbt))
   rw [hvl, nds_length]; have := HL.out; omega
  have HLE := Aside0.mk (show (vl.take k).length ≤ 1000000 by rw [List.length_take]; omega)
  have HKT := Aside0.mk (show (vl.take k).length = k by rw [List.length_take]; omega)
  have HBS := Aside0.mk (R_base HRO.out)
  have hkc : k ≤ c := by omega
  rw [Int.toNat_natCast] at e1
  have HE1 := Aside0.mk e1
  clear e1 hr hi0 hk hvl hcm hbt hkl hlc hle
  go_wp2_with fail
  refine (DeleteFuncNode.calls (fun x => decide (x.f3 = 0)) 120 _ _ (vl.take k) W6 HRT.out HLE.out dead_enters dead_call).mono ?_
  rintro e V ⟨v2, rfl, hR2, hg⟩
  have HB2 := Aside0.mk (grown_on hg HB.out (fun q e => Nat.le_trans (by simp) (HBS.out q e)))
  obtain ⟨A2, c2, rfl⟩ := RN.slice hR2
  clear hR2 hg
  go_wp2
  go_ret2
  exact ⟨by rw [HE1.out]; rfl, HB2.out⟩
 ·
  obtain ⟨e1, e2⟩ := HE.out.2 hr
  subst e1 e2
  have hr1 : (r2 != 0) = true := by simp [hr]
  clear hr
  go_wp2
  go_ret2
  exact ⟨rfl, HB.out⟩
end Go.Proofs.YtjlpaagnajmogaaGreat.PWalk
end
section
namespace Go.Proofs.YtjlpaagnajmogaaGreat.PWalk
open Go.RowKit Go.Proofs.YtjlpaagnajmogaaGreatW.PrintWords Go.Proofs.YtjlpaagnajmogaaGreatW.PrintLast Go.Proofs.YtjlpaagnajmogaaGreatW.PrintMore
set_option linter.unusedVariables false
set_option linter.unusedSimpArgs false
open Go.Shelf
attribute [local go_sem] Oper.semAt_some
def index_Dots.f (l0 : List Node) (a1 a2 : Int) : Option (List Dot × Int) :=
 if l0.length ≤ 1000000 then some (if storeOk l0 = true then (if a1 < 0 ∨ a2 < a1 ∨ (visOf l0).length < a2 then ([], 3) else ((((visOf l0).take a2.toNat).drop a1.toNat).map (·.f0), 0)) else ([], 2)) else none
theorem first2_out {a b r : Int} (h : index_first.f 10 [a, b] = some r) : r = if a = 0 then b else a := by rw [first2_is] at h; exact (Option.some.inj h).symm
theorem visOf_le {ll : List Node} (hl : ll.length ≤ 1000000) (hs : storeOk ll = true) : (visOf ll).length ≤ 1000000 := by
 have h1 := aliveOf_le (nds (ordOf ll))
 have h2 := ord_le (store_of hs)
 rw [nds_length] at h1
 unfold visOf
 omega
theorem lit_dotsC (W : World) (g : Nat) (hg : W.heap.size = g) (xs : List Dot) (cs : Array Value) (hcs : cs.toList = dcellsOf xs) (hm : xs.length ≤ 1000000) : Kd.C k24 (W.alloc (.cells cs 24 (0, 0))) (some ⟨g, 0, none⟩) xs.length xs := by
 subst hg
 have hsz : cs.size = xs.length * 2 := by rw [← Array.length_toList, hcs, dcellsOf_length]
 have h : RD (W.alloc (.cells cs 24 (0, 0))) 0 (.slice (some ⟨W.heap.size, 0, none⟩) xs.length xs.length) xs := RD_of_cells ⟨dcellsOf_length _, .inr ⟨W.heap.size, xs.length, cs, rfl, Nat.zero_le _, blk_new _ _, Nat.le_refl _, (show xs.length ≤ 9223372036854775807 by omega), hsz, by rw [← hcs, List.take_of_length_le (by rw [Array.length_toList]; omega)]⟩⟩
 exact (Kd.R_reads' h).2.2
theorem app_dots {ops : Array Oper} {Q : Exit → Act → World → Prop} {o : Oper} {rest : List Oper} {a : Act} {W : World} (w : World) (hgd : o.guard = none) (x y : Operand)
  (ho : o.op = .call { callee := .builtin .append, args := #[x, y], argTypes := #[41, 41] }) (v : Value) (xs : List Dot) (A : Option Addr) (ys : List Dot) (n c : Nat) (hn : ys.length = n) (hx : a.eval x = v) (hy : a.eval y = .slice A n c)
  (hr : Kd.R k24 24 W w.heap.size (fun _ => True) v xs) (hc : Kd.C k24 W A n ys) (hb : Below w.heap.size w W) (hl : xs.length + n ≤ 1000000)
  (h : ∀ v1 w1, Kd.R k24 24 w1 w.heap.size (fun _ => True) v1 (xs ++ ys) → Below w.heap.size w w1 → wpList Tryz.prog ops Q rest (a.put o.dst v1) w1) : wpList Tryz.prog ops Q (o :: rest) a W := by
 subst hn
 refine Kd.R_append_rows k24 (w0 := w) w.heap.size hgd x y 41 24 (.agg #[(.int .i64 0), (.int .i64 0)]) 16 ho Tryz.underlying41 info24 rfl (by decide) (by decide) v xs ys A ys.length c (fun _ => True) (fun _ => False) hx hy hr hc (fun x cs h => (by rw [k24_open h]; exact k24_mkM _ _ _ x)) (fun _ hk => hk.elim) (fun _ _ => trivial) hb hb.size (by omega) ?_
 intro v1 w1 ho hb _ _
 exact h v1 w1 ho hb
theorem dots_end {b : Bool} {ev n2 r3 : Int} {t : Bool} (hv : (b = true → ev = 0) ∧ (b = false → ev = 2)) (h2 : n2 = if t = true then 3 else 0) (h3 : r3 = if ev = 0 then n2 else ev) : (r3 = 0 → b = true ∧ t = false) ∧ (¬ r3 = 0 → (r3 = if b = true then 3 else 2) ∧ (b = true → t = true)) := by
 cases b with
 | false => have := hv.2 rfl; subst this h3; simp
 | true =>
  have := hv.1 rfl
  subst this h3 h2
  cases t <;> simp
set_option maxHeartbeats 1000000 in
set_option maxRecDepth 100000 in
theorem index_Dots.calls (A0 : Option Addr) (c0 : Nat) (ll : List Node) (a1 a2 : Int) (r1 : List Dot) (r2 : Int) (w : World) (hr0 : Kd.C k35 w A0 ll.length ll) (hc0 : ll.length ≤ c0) (h : index_Dots.f ll a1 a2 = some (r1, r2)) :
  Calls Tryz.prog 87 #[.slice A0 ll.length c0, .int .i64 a1, .int .i64 a2] w fun e w' => ∃ v0_ : Value, e = .returned (.tuple #[v0_, .int .i64 r2]) ∧ Kd.R k24 24 w' w.heap.size (fun _ => True) v0_ r1 ∧ Below w.heap.size w w' := by
 unfold index_Dots.f at h
 by_cases hl : ll.length ≤ 1000000
 rotate_left
 ·
  rw [if_neg hl] at h; cases h
 rw [if_pos hl] at h
 have HH := Aside0.mk (Option.some.inj h)
 have HR := Aside0.mk hr0
 have HC := Aside0.mk hc0
 have HL := Aside0.mk hl
 clear h hr0 hc0 hl
 obtain ⟨b, Hb⟩ : ∃ b, Aside0 (storeOk ll = b) := ⟨_, ⟨rfl⟩⟩
 obtain ⟨vl, ev, HV⟩ : ∃ vl ev, Aside0 (index_visible.f ll = some (vl, ev) ∧ (b = true → vl = visOf ll ∧ ev = 0) ∧ (b = false → vl = [] ∧ ev = 2)) := by
  rw [vis_is HL.out]
  cases b with
  | true => exact ⟨visOf ll, 0, ⟨by rw [if_pos Hb.out], fun _ => ⟨rfl, rfl⟩, fun h => (by cases h)⟩⟩
  | false => exact ⟨[], 2, ⟨by rw [if_neg (by rw [Hb.out]; decide)], fun h => (by cases h), fun _ => ⟨rfl, rfl⟩⟩⟩
 rw [Hb.out] at HH
 obtain ⟨t, Ht⟩ : ∃ t : Bool, Aside0 (decide (a1 < 0 ∨ a2 < a1 ∨ (vl.length : Int) < a2) = t) := ⟨_, ⟨rfl⟩⟩
 obtain ⟨n2, H2⟩ : ∃ n, Aside0 (index_when.f t 3 = some n) := ⟨_, ⟨when_is _ _⟩⟩
 obtain ⟨r3, H3⟩ : ∃ n, Aside0 (index_first.f 10 [ev, n2] = some n) := ⟨_, ⟨first2_is _ _⟩⟩
 have HE := Aside0.mk (dots_end (b := b) (t := t) (ev := ev) ⟨fun e => (HV.out.2.1 e).2, fun e => (HV.out.2.2 e).2⟩ (when_out H2.out) (first2_out H3.out))
 go_enter Tryz.func87, Tryz.ntmps87
 go_wp2_with fail
 refine (index_visible.calls A0 _ ll vl ev _ HR.out HC.out HV.out.1).mono ?_
 rintro e W ⟨v, rfl, hR, hb⟩
 have HRO := Aside0.mk hR
 have HB := Aside0.mk hb
 clear hR hb
 obtain ⟨A, c, rfl⟩ := RN.slice HRO.out
 have hlc : vl.length ≤ c := (Kd.R_reads' HRO.out).2.1
 have HM := Aside0.mk (Kd.C_max (Kd.R_reads' HRO.out).2.2)
 have HN := Aside0.mk (show ¬ r3 = 0 → r1 = [] ∧ r2 = r3 from fun hr => by
  obtain ⟨h1, h2⟩ := HE.out.2 hr
  have hh := HH.out
  cases hb : b with
  | false => rw [hb] at hh h1; rw [if_neg (by decide)] at hh; cases hh; exact ⟨rfl, by rw [h1]; rfl⟩
  | true =>
   have ht := Ht.out
   rw [h2 hb, (HV.out.2.1 hb).1] at ht
   rw [hb] at hh h1
   rw [if_pos rfl, if_pos (of_decide_eq_true ht)] at hh
   cases hh
   exact ⟨rfl, by rw [h1]; rfl⟩)
 have HY := Aside0.mk (show r3 = 0 → r1 = ((vl.take a2.toNat).drop a1.toNat).map (·.f0) ∧ r2 = 0 ∧ vl.length ≤ 1000000 from fun hr => by
  obtain ⟨h1, h2⟩ := HE.out.1 hr
  have hh := HH.out
  have ht := Ht.out
  rw [h2, (HV.out.2.1 h1).1] at ht
  rw [h1, if_pos rfl, if_neg (of_decide_eq_false ht)] at hh
  rw [(HV.out.2.1 h1).1]
  cases hh
  exact ⟨rfl, rfl, visOf_le HL.out (Hb.out.trans h1)⟩)
 by_cases q1 : a1 < 0
 ·
  have b1 : decide (a1 < 0) = true := decide_eq_true q1
  obtain rfl : t = true := by rw [← Ht.out]; simp; omega
  clear q1
  go_wp2_with fail
  refine (index_when.calls true 3 n2 _ H2.out).mono ?_
  rintro e W2 ⟨rfl, hb⟩
  have HB := Aside0.mk (below_more HB.out hb.below)
  clear hb HRO
  go_wp2_with fail
  refine (index_first.calls 10 (some ⟨W2.heap.size, 0, none⟩) 2 [ev, n2] r3 _ (errs_C (zs := [ev, n2]) (blk_new W2 _) (by show 2 ≤ 1000000; omega)) (Nat.le_refl 2) H3.out).mono ?_
  rintro e W3 ⟨rfl, hb⟩
  have HB := Aside0.mk (below_more (below_alloc HB.out _) hb.below)
  clear hb
  have hr : ¬ r3 = 0 := fun e => by have := (HE.out.1 e).2; cases this
  obtain ⟨e1, e2⟩ := HN.out hr
  subst e1 e2
  have hr1 : (r2 != 0) = true := by simp [hr]
  clear hr
  go_wp2
  go_ret2
  exact ⟨_, rfl, Kd.R_nil _ _ _ _ _, HB.out⟩
 ·
  by_cases q2 : a2 < a1
  ·
   have b1 : decide (a1 < 0) = false := decide_eq_false q1
   have b2 : decide (a2 < a1) = true := decide_eq_true q2
   obtain rfl : t = true := by rw [← Ht.out]; simp; omega
   clear q1 q2
   go_wp2_with fail
   refine (index_when.calls true 3 n2 _ H2.out).mono ?_
   rintro e W2 ⟨rfl, hb⟩
   have HB := Aside0.mk (below_more HB.out hb.below)
   clear hb HRO
   go_wp2_with fail
   refine (index_first.calls 10 (some ⟨W2.heap.size, 0, none⟩) 2 [ev, n2] r3 _ (errs_C (zs := [ev, n2]) (blk_new W2 _) (by show 2 ≤ 1000000; omega)) (Nat.le_refl 2) H3.out).mono ?_
   rintro e W3 ⟨rfl, hb⟩
   have HB := Aside0.mk (below_more (below_alloc HB.out _) hb.below)
   clear hb
   have hr : ¬ r3 = 0 := fun e => by have := (HE.out.1 e).2; cases this
   obtain ⟨e1, e2⟩ := HN.out hr
   subst e1 e2
   have hr1 : (r2 != 0) = true := by simp [hr]
   clear hr
   go_wp2
   go_ret2
   exact ⟨_, rfl, Kd.R_nil _ _ _ _ _, HB.out⟩
  ·
   by_cases q3 : (vl.length : Int) < a2
   ·
    have b1 : decide (a1 < 0) = false := decide_eq_false q1
    have b2 : decide (a2 < a1) = false := decide_eq_false q2
    have b3 : decide (a2 > (vl.length : Int)) = true := decide_eq_true q3
    obtain rfl : t = true := by rw [← Ht.out]; simp; omega
    clear q1 q2 q3
    go_wp2_with fail
    refine (index_when.calls true 3 n2 _ H2.out).mono ?_
    rintro e W2 ⟨rfl, hb⟩
    have HB := Aside0.mk (below_more HB.out hb.below)
    clear hb HRO
    go_wp2_with fail
    refine (index_first.calls 10 (some ⟨W2.heap.size, 0, none⟩) 2 [ev, n2] r3 _ (errs_C (zs := [ev, n2]) (blk_new W2 _) (by show 2 ≤ 1000000; omega)) (Nat.le_refl 2) H3.out).mono ?_
    rintro e W3 ⟨rfl, hb⟩
    have HB := Aside0.mk (below_more (below_alloc HB.out _) hb.below)
    clear hb
    have hr : ¬ r3 = 0 := fun e => by have := (HE.out.1 e).2; cases this
    obtain ⟨e1, e2⟩ := HN.out hr
    subst e1 e2
    have hr1 : (r2 != 0) = true := by simp [hr]
    clear hr
    go_wp2
    go_ret2
    exact ⟨_, rfl, Kd.R_nil _ _ _ _ _, HB.out⟩
   ·
    have b1 : decide (a1 < 0) = false := decide_eq_false q1
    have b2 : decide (a2 < a1) = false := decide_eq_false q2
    have b3 : decide (a2 > (vl.length : Int)) = false := decide_eq_false q3
    obtain rfl : t = false := by rw [← Ht.out]; simp; omega
    have Q := Aside0.mk (show 0 ≤ a1 ∧ a1 ≤ a2 ∧ a2 ≤ vl.length by omega)
    clear q1 q2 q3
    go_wp2_with fail
    refine (index_when.calls false 3 n2 _ H2.out).mono ?_
    rintro e W2 ⟨rfl, hb⟩
    have HB := Aside0.mk (below_more HB.out hb.below)
    have HRO := Aside0.mk (own_more HRO.out hb.below)
    clear hb
    go_wp2_with fail
    refine (index_first.calls 10 (some ⟨W2.heap.size, 0, none⟩) 2 [ev, n2] r3 _ (errs_C (zs := [ev, n2]) (blk_new W2 _) (by show 2 ≤ 1000000; omega)) (Nat.le_refl 2) H3.out).mono ?_
    rintro e W3 ⟨rfl, hb⟩
    have HB := Aside0.mk (below_more (below_alloc HB.out _) hb.below)
    have HRO := Aside0.mk (own_more (own_more HRO.out (below_alloc (Below.refl _ W2) _)) hb.below)
    clear hb
    by_cases hr : r3 = 0
    rotate_left
    ·
     obtain ⟨e1, e2⟩ := HN.out hr
     subst e1 e2
     have hr1 : (r2 != 0) = true := by simp [hr]
     clear hr
     go_wp2
     go_ret2
     exact ⟨_, rfl, Kd.R_nil _ _ _ _ _, HB.out⟩
    ·
     have hr1 : (r3 != 0) = false := by simp [hr]
     have HYY := Aside0.mk (HY.out hr)
     obtain ⟨i0, hi0, _, hsz, _⟩ := info_parts infoN
     have hcut := cut_mid (P := Tryz.prog) 22 35 .i64 .i64 Tryz.underlying22 hi0 6 hsz A vl.length c a1 a2 Q.out.1 Q.out.2.1 Q.out.2.2 hlc
     have hry := Kd.C_mid (lo := a1.toNat) (hi := a2.toNat) (c := c) (Kd.R_reads' HRO.out).2.2 (by have := Q.out; omega) (by have := Q.out; omega) hlc
     obtain ⟨y, Hy⟩ : ∃ y, Aside0 ((vl.take a2.toNat).drop a1.toNat = y) := ⟨_, ⟨rfl⟩⟩
     obtain ⟨Ay, HAy⟩ : ∃ Ay, Aside0 ((if c = a1.toNat then A else (A : Option Addr).map (·.add (a1.toNat * 6))) = Ay) := ⟨_, ⟨rfl⟩⟩
     have hyl : a2.toNat - a1.toNat = y.length := by rw [← Hy.out, List.length_drop, List.length_take]; have := Q.out; omega
     rw [Hy.out] at hry
     replace hry : Kd.C k35 W3 Ay y.length y := by rw [← HAy.out]; exact hry
     have HRY := Aside0.mk hry
     rw [HAy.out, hyl] at hcut
     have HYL := Aside0.mk (show y.length ≤ 1000000 by have := HYY.out.2.2; have := Q.out; omega)
     have HYE := Aside0.mk (show r1 = y.map (·.f0) ∧ r2 = 0 by rw [← Hy.out]; exact ⟨HYY.out.1, HYY.out.2.1⟩)
     have hmy := Kd.C_max hry
     clear hry hr hi0 hsz hyl
     go_wp2
     go_loopw [10, 43] (fun v10 v43 wr => ∃ (j : Nat), v43 = .int .i64 j ∧ j ≤ y.length ∧ Aside0 (Kd.R k24 24 wr W3.heap.size (fun _ => True) v10 ((y.take j).map (·.f0))) ∧ Aside0 (Below W3.heap.size W3 wr)) (fun _ v43 _ => y.length - (intOf v43).toNat)
     case atStart => exact ⟨0, rfl, Nat.zero_le _, ⟨Kd.R_nil _ _ _ _ _⟩, ⟨Below.refl _ _⟩⟩
     case round =>
      obtain ⟨j, rfl, hjl, HO, HW⟩ := hrel
      by_cases hlt : j < y.length
      ·
       obtain ⟨x, hx⟩ : ∃ x, Aside0 (y[j]? = some x) := ⟨_, ⟨List.getElem?_eq_getElem hlt⟩⟩
       obtain ⟨ad, e, h0, h1, h2, h3, h4, h5⟩ := node_at HRY.out HW.out j x hx.out
       clear hcut
       subst e
       go_wp2_with (at_builtin; refine app_dots W3 rfl (.tmp 47) (.tmp 50) rfl _ ((y.take j).map (·.f0)) _ [x.f0] 1 1 rfl rfl rfl (Kd.R_below HO.out (below_alloc (below_alloc (Below.refl _ wr) _) _)) (lit_dotsC _ _ (by simp) [x.f0] _ rfl (Nat.le_of_ble_eq_true rfl)) (below_alloc (below_alloc HW.out _) _) (by rw [List.length_map, List.length_take]; have := HYL.out; omega) ?_; intro v1 w1 ho hb1)
       go_roundw
       case rel => exact ⟨j + 1, by go_num, by omega, ⟨by rw [List.take_add_one, hx.out, List.map_append]; exact ho⟩, ⟨hb1⟩⟩
       case measure => simp [intOf]; omega
      ·
       obtain rfl : j = y.length := by omega
       have HOR := HO.out
       rw [List.take_length] at HOR
       have HOR2 := Aside0.mk (Kd.R_lower HOR HB.out.size)
       obtain ⟨e1, e2⟩ := HYE.out
       rw [← e1] at HOR2
       subst e2
       clear HOR e1
       go_wp2
       go_ret2
       exact ⟨_, rfl, HOR2.out, below_more HB.out HW.out⟩
end Go.Proofs.YtjlpaagnajmogaaGreat.PWalk
end
section
namespace Go.Proofs.YtjlpaagnajmogaaGreat.PWalk
open Go.RowKit Go.Proofs.YtjlpaagnajmogaaGreatW.PrintWords Go.Proofs.YtjlpaagnajmogaaGreatW.PrintLast Go.Proofs.YtjlpaagnajmogaaGreatW.PrintMore
set_option linter.unusedVariables false
set_option linter.unusedSimpArgs false
open Go.Shelf
attribute [local go_sem] Oper.semAt_some
theorem dot_at {w wr : World} {A : Option Addr} {n : Nat} {xs : List Dot} (h : Kd.C k24 w A n xs) (hb : Below w.heap.size w wr) (k : Nat) (x : Dot) (hk : xs[k]? = some x) :
  ∃ ad, A = some ad ∧ wr.cell? (ad.add (k * 2)) = some (.int .i64 x.f0) ∧ wr.cell? ⟨(ad.add (k * 2)).block, (ad.add (k * 2)).off + 1, none⟩ = some (.int .i64 x.f1) := by
 have hl := Kd.C_len h
 have hlt := (List.getElem?_eq_some_iff.1 hk).1
 obtain ⟨ad, e, h0, h1⟩ := at_T24 h (k : Int) (by omega) (by omega)
 have hd : rd_T24 xs (k : Int) = x := by simp [rd_T24, hk]
 rw [hd] at h0 h1
 simp only [Int.toNat_natCast] at h0 h1
 exact ⟨ad, e, pw_cell_below hb h0, pw_cell_below hb h1⟩
end Go.Proofs.YtjlpaagnajmogaaGreat.PWalk
end
section
namespace Go.Proofs.YtjlpaagnajmogaaGreat.PWalk
end Go.Proofs.YtjlpaagnajmogaaGreat.PWalk
end
section
namespace Go.Proofs.YtjlpaagnajmogaaGreat.PWalk
end Go.Proofs.YtjlpaagnajmogaaGreat.PWalk
end
section
namespace Go.Proofs.YtjlpaagnajmogaaGreat.PWalk
open Go.RowKit Go.Proofs.YtjlpaagnajmogaaGreatW.PrintWords Go.Proofs.YtjlpaagnajmogaaGreatW.PrintLast Go.Proofs.YtjlpaagnajmogaaGreatW.PrintMore
set_option linter.unusedVariables false
set_option linter.unusedSimpArgs false
open Go.Shelf
attribute [local go_sem] Oper.semAt_some
theorem belowN_length (l : List Node) : ∀ (n dep dep' : Nat) (d : Dot), (belowN l n dep d).length = (belowN l n dep' d).length
 | 0, _, _, _ => rfl
 | n + 1, dep, dep', d => by
  rw [belowN, belowN, List.length_flatMap, List.length_flatMap]
  congr 1
  refine List.map_congr_left fun x _ => ?_
  rw [List.length_cons, List.length_cons, belowN_length l n (dep + 1) (dep' + 1) x.f0]
theorem below_le {l : List Node} (hs : Store l) {d : Dot} {U : List Node} (h : Path l d U) (dep : Nat) : (belowOf l dep d).length ≤ l.length := by
 unfold belowOf
 rw [belowN_length l _ dep U.length d]
 have hn := belowN_nodup hs (n := l.length + 1) h rfl
 have h2 : ((belowN l (l.length + 1) U.length d).map (·.2)).Nodup := by
  refine List.Pairwise.map (R := fun a b => a ≠ b ∧ a ∈ belowN l (l.length + 1) U.length d ∧ b ∈ belowN l (l.length + 1) U.length d) _ (fun a b ⟨hab, ha, hb⟩ e => ?_) ?_
  ·
   obtain ⟨_, _, V1, _, h1, h2, _⟩ := mem_belowN hs h rfl ha
   obtain ⟨_, _, V2, _, k1, k2, _⟩ := mem_belowN hs h rfl hb
   have e' : a.2 = b.2 := e
   rw [e'] at h1
   have := (List.cons.inj (h1.unique hs k1)).2
   subst this
   exact hab (Prod.ext (by omega) e')
  ·
   exact List.Pairwise.imp_of_mem (fun ha hb h => ⟨h, ha, hb⟩) hn
 have := nodup_le h2 (l := l) fun x hx => by
  obtain ⟨p, hp, rfl⟩ := List.mem_map.1 hx
  obtain ⟨_, _, V, _, h1, _, _⟩ := mem_belowN hs h rfl hp
  exact h1.mem _ List.mem_cons_self
 simpa using this
end Go.Proofs.YtjlpaagnajmogaaGreat.PWalk
end
section
namespace Go.Proofs.YtjlpaagnajmogaaGreat.PWalk
end Go.Proofs.YtjlpaagnajmogaaGreat.PWalk
end
