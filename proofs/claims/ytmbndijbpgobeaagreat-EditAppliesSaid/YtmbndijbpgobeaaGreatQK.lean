/-
  The law EditApplies of layer 15 holds for all states and deltas. Part 11 of 11.
-/
import Derived.Test.YtmbndijbpgobeaaGreatQJ
import Derived.Test.YtmbndijbpgobeaaGreatRows
import Derived.WalkKit
import Derived.ProofKit
import Derived.OpenShut
import Derived.ShutString
import Derived.ChangeOld
import Derived.Below
import Derived.SizedLaws
import Derived.Deep.DeepHandedRow
import Derived.Deep.Slices
import Derived.Lib.SmallJoins
section
namespace Go.Proofs.YtmbndijbpgobeaaGreat.PWalk
open Go.RowKit Go.Proofs.YtmbndijbpgobeaaGreatW.PrintWords Go.Proofs.YtmbndijbpgobeaaGreatW.PrintLast Go.Proofs.YtmbndijbpgobeaaGreatW.PrintMore
attribute [local go_sem] max2_int max_two
set_option linter.unusedVariables false
set_option linter.unusedSimpArgs false
def redpencilref14_Runes.l0 : Nat → List Int → List (S53) → Int → Option (List Int)
 | 0, _, _, _ => none
 | k + 1, x3, x4, x5 => if x5 < (x4.length : Int) then (if 0 ≤ x5 then (if x3.length < 35184372088832 then (redpencilref14_Runes.l0 k (x3 ++ [(rd_T53 x4 x5).f3]) x4 (wrap64 (x5 + 1))) else (none)) else (none)) else (some x3)
def redpencilref14_Runes.f (k : Nat) (l0 : List (S53)) : Option (List Int) := (redpencilref14_Visible.f k l0).bind fun t309 => (redpencilref14_Runes.l0 k ([] : List Int) t309 0)
set_option maxHeartbeats 8000000 in
set_option maxRecDepth 100000 in
theorem redpencilref14_Runes.calls (k : Nat) (A0 : Option Addr) (c0 : Nat) (l0 : List (S53)) (r : List Int) (w : World) (hr0 : Kd.C k53 w A0 l0.length l0) (hc0 : l0.length ≤ c0) (h : redpencilref14_Runes.f k l0 = some r) :
  Calls Tryz.prog 30 #[.slice A0 l0.length c0] w fun e w' => ∃ v0_ : Value, e = .returned (v0_) ∧ Kd.R (Kd.int .i32) 21 w' w.heap.size (fun _ => True) v0_ r ∧ Below w.heap.size w w' := by
 have HR0 := Aside0.mk hr0
 have HC0 := Aside0.mk hc0
 clear hr0 hc0
 have HB := Aside0.mk (Below.refl w.heap.size w)
 have H : ((redpencilref14_Visible.f k l0).bind fun t309 => (redpencilref14_Runes.l0 k ([] : List Int) t309 0)) = some r := h
 clear h
 replace H := Option.bind_eq_some_iff.mp H
 obtain ⟨t309, A20, H⟩ := H
 replace H : (redpencilref14_Runes.l0 k ([] : List Int) t309 0) = some r := H
 have A2 := Aside0.mk A20
 clear A20
 have H' := Aside0.mk H
 clear H
 go_enter Tryz.func30, Tryz.ntmps30
 go_wp2_with (first | ((with_reducible refine gate_callee (f := 38) rfl ?_); refine goesL_ (some 7) rfl rfl Tryz.func38 (by kernel_rfl) rfl #[.slice A0 l0.length c0] rfl (by (try simp only [List.map_toArray, List.map_cons, List.map_nil]); first | done | rfl | (simp only [List.length_drop, List.length_take]; rfl)) ?_; (with_reducible refine (redpencilref14_Visible.calls k _ _ l0 t309 _ ?side1 ?side2 A2.out).mono ?_); (case side1 => repeat (first | exact HR0.out | (with_reducible refine Kd.C_alloc ?_ _) | (with_reducible refine Kd.C_drewN ?_ _) | (with_reducible refine Kd.C_drew ?_))); (case side2 => exact HC0.out); rintro e w3 ⟨v310, rfl, ho0, hb⟩; refine ⟨_, rfl, ?_⟩; have n0_ := Aside0.mk (Kd.R_lower ho0 (below_size (by repeat (first | (with_reducible first | exact HB.out | apply below_alloc | apply pw_below_drewN | apply below_drew1) | exact HB.out)))); have n1_ := Aside0.mk (below_step (by repeat (first | (with_reducible first | exact HB.out | apply below_alloc | apply pw_below_drewN | apply below_drew1) | exact HB.out)) hb); clear HB; have HO311 := n0_; have HB := n1_; clear n0_ n1_; (try clear hb); (try clear hb2); (try clear hk); (try clear hi); (try clear ho0)))
 go_loopg [3, 5] k (fun kq v3 v5 w' => ∃ (x3_1 : List Int) (x5_1 : Int), v5 = .int .i64 x5_1 ∧ Aside0 (redpencilref14_Runes.l0 kq x3_1 t309 x5_1 = some r) ∧ Aside0 (kq ≤ k) ∧ Aside0 (Kd.R (Kd.int .i32) 21 w' w.heap.size (fun _ => True) v3 x3_1) ∧ Aside0 (Kd.R k53 53 w' w.heap.size (fun _ => True) v310 t309) ∧ Aside0 (Below w.heap.size w w'))
 case atStart => exact ⟨(([] : List Int)), (0), (by first | rfl | (simp; done) | (simp [*]; done)), H', ⟨Nat.le_refl _⟩, ⟨by first | exact Kd.R_nil _ _ _ _ _ | exact Kd.N_nil _ _ _ _ _ | exact Kd.V_nil _ _ _ _ _ | exact Kd.Q_nil _ _ _ _ _ | exact Kd.S_nil _ _ _ _ _⟩, ⟨by (with_reducible repeat (first | apply Kd.R_alloc | apply Kd.R_drewN | apply Kd.R_drew)); exact HO311.out⟩, ⟨by repeat (first | (with_reducible first | exact HB.out | apply below_alloc | apply pw_below_drewN | apply below_drew1) | exact HB.out)⟩⟩
 case round =>
  clear H'
  try clear p2
  try clear c3
  obtain ⟨x3_1, x5_1, rfl, HA, HK1, HO_3, HO_4, HB⟩ := hrel
  cases gk with
  | zero => exact absurd HA.out (by simp [redpencilref14_Runes.l0])
  | succ k1 =>
   have H := HA.out
   clear HA
   simp only [redpencilref14_Runes.l0] at H
   by_cases c4 : x5_1 < (t309.length : Int)
   ·
    rw [if_pos c4] at H
    have c4b0 : decide (x5_1 < (t309.length : Int)) = true := decide_eq_true c4
    clear c4
    by_cases c5 : 0 ≤ x5_1
    ·
     rw [if_pos c5] at H
     have c5b0 : decide (0 ≤ x5_1) = true := decide_eq_true c5
     clear c5
     by_cases c6 : x3_1.length < 35184372088832
     ·
      rw [if_pos c6] at H
      have LMc6 := Aside0.mk c6
      clear c6
      obtain ⟨y313, hy313⟩ : ∃ y_ : List Int, y_ = (x3_1 ++ [(rd_T53 t309 x5_1).f3]) := ⟨_, rfl⟩
      replace H : (redpencilref14_Runes.l0 k1 y313 t309 (wrap64 (x5_1 + 1))) = some r := by first | (rw [hy313]; with_reducible exact H) | (have H2_ := (Option.bind_some _ _).symm.trans H; rw [hy313]; with_reducible exact H2_) | (have H2_ := (Option.bind_some _ _).symm.trans H; with_reducible exact H2_) | with_reducible exact H | (rw [hy313]; exact H) | exact H
      have Ny313 := Aside0.mk hy313
      clear hy313
      have H' := Aside0.mk H
      clear H
      obtain ⟨Ao7, co7, eo7⟩ := Kd.R_slice HO_4.out
      subst eo7
      have p312 : 0 ≤ (x5_1 : Int) := of_decide_eq_true (by first | (with_reducible assumption) | assumption)
      have q312 : x5_1 < (t309.length : Int) := of_decide_eq_true (by first | (with_reducible assumption) | assumption)
      obtain ⟨ad312, e312, hx312_0, hx312_1, hx312_2, hx312_3, hx312_4, hx312_5⟩ := at_T53 (Kd.R_reads' HO_4.out).2.2 x5_1 p312 q312
      cases e312
      replace p312 := eq_true p312
      replace q312 := eq_true q312
      go_wp2_with (first | ((with_reducible refine gate_builtin (b := .append) (xs := #[.tmp 14, .tmp 20]) rfl ?_); at_builtin; refine Kd.R_append (Kd.int .i32) (w0 := w) w.heap.size rfl (.tmp 14) (.tmp 20) 26 21 (.int .i32 0) 4 rfl Tryz.underlying26 info21 rfl (by decide) (by omega) u3 x3_1 ((rd_T53 t309 x5_1).f3) [.int .i32 ((rd_T53 t309 x5_1).f3)] (fun _ => True) (fun _ => False) rfl rfl ?aP (fun _ hk => hk.elim) ?aF ?aO ?aB ?aS ?aL ?_; (case aP => exact rfl); (case aB => exact (by repeat (first | (with_reducible first | exact HB.out | apply below_alloc | apply pw_below_drewN | apply below_drew1) | exact HB.out))); (case aF => exact (fun _ _ => trivial)); (case aO => exact (by (with_reducible repeat (first | apply Kd.R_alloc | apply Kd.R_drewN | apply Kd.R_drew)); exact HO_3.out)); (case aS => exact (below_size (by repeat (first | (with_reducible first | exact HB.out | apply below_alloc | apply pw_below_drewN | apply below_drew1) | exact HB.out)))); (case aL => have := LMc6.out; omega); intro v314 w8 ho hb hg hat; rw [← Ny313.out] at ho; have n0_ := Aside0.mk (Kd.R_over' (by (with_reducible repeat (first | apply Kd.R_alloc | apply Kd.R_drewN | apply Kd.R_drew)); exact HO_4.out) (Kd.R_typed (by (with_reducible repeat (first | apply Kd.R_alloc | apply Kd.R_drewN | apply Kd.R_drew)); exact HO_3.out)) (by decide) hg); have n1_ := Aside0.mk (hb); have n2_ := Aside0.mk (ho); clear HO_4; clear HB; clear HO_3; have HO_4 := n0_; have HB := n1_; have HO315 := n2_; clear n0_ n1_ n2_; clear ho hb hg hat))
      go_roundg k1
      case measure => have := HK1.out; omega
      case rel => exact ⟨(y313), (wrap64 (x5_1 + 1)), (by first | rfl | (simp; done) | (simp [*]; done)), H', ⟨by have := HK1.out; omega⟩, ⟨by (with_reducible repeat (first | apply Kd.R_alloc | apply Kd.R_drewN | apply Kd.R_drew)); exact HO315.out⟩, ⟨by (with_reducible repeat (first | apply Kd.R_alloc | apply Kd.R_drewN | apply Kd.R_drew)); exact HO_4.out⟩, ⟨by repeat (first | (with_reducible first | exact HB.out | apply below_alloc | apply pw_below_drewN | apply below_drew1) | exact HB.out)⟩⟩
     ·
      rw [if_neg c6] at H
      exact absurd H (by simp)
    ·
     rw [if_neg c5] at H
     exact absurd H (by simp)
   ·
    rw [if_neg c4] at H
    have c4b0 : decide (x5_1 < (t309.length : Int)) = false := decide_eq_false c4
    clear c4
    obtain rfl := Option.some.inj H
    obtain ⟨Ao9, co9, eo9⟩ := Kd.R_slice HO_4.out
    subst eo9
    go_wp2
    go_ret
    exact ⟨_, by first | rfl | (simp [errW_none, errW_some] <;> rfl) | (simp [*, errW_none, errW_some] <;> rfl), by (with_reducible repeat (first | apply Kd.R_alloc | apply Kd.R_drewN | apply Kd.R_drew)); exact HO_3.out, by repeat (first | (with_reducible first | exact HB.out | apply below_alloc | apply pw_below_drewN | apply below_drew1) | exact HB.out)⟩
end Go.Proofs.YtmbndijbpgobeaaGreat.PWalk
end
section
namespace Go.Proofs.YtmbndijbpgobeaaGreat.PWalk
open Go.RowKit Go.Proofs.YtmbndijbpgobeaaGreatW.PrintWords Go.Proofs.YtmbndijbpgobeaaGreatW.PrintLast Go.Proofs.YtmbndijbpgobeaaGreatW.PrintMore
attribute [local go_sem] max2_int max_two
set_option linter.unusedVariables false
set_option linter.unusedSimpArgs false
mutual
def redpencillaw15_EditApplies.j0 : Nat → List (S53) → List (S53) → Bool → Option (Bool)
 | 0, _, _, _ => none
 | k + 1, x0, x1, x16 => if x16 = true then ((redpencillaw15_known.f).bind fun t316 => (some t316)) else ((edit_Latest.f k x0).bind fun t317 => ((redpencilref15_Latest.f k x0).bind fun t318 => (if t317 = t318 then ((edit_Apply.f k x0 x1).bind fun bt319 => ((redpencilref14_Store.f x0).bind fun t326 => (if t326 = true then ((redpencilref14_Store.f x1).bind fun t327 => (redpencillaw15_EditApplies.j1 k x0 x1 bt319.1 bt319.2.1 bt319.2.2 (!t327))) else (redpencillaw15_EditApplies.j1 k x0 x1 bt319.1 bt319.2.1 bt319.2.2 true)))) else (some false))))
def redpencillaw15_EditApplies.j1 : Nat → List (S53) → List (S53) → List (S53) → List Int → Int → Bool → Option (Bool)
 | 0, _, _, _, _, _, _ => none
 | k + 1, x0, x1, x5, x6, x7, x30 => if x30 = true then (if (x5.length : Int) = 0 then (if (x6.length : Int) = 0 then (if x7 = 2 then ((redpencillaw15_known.f).bind fun t328 => (some t328)) else (some false)) else (some false)) else (some false)) else ((redpencilref14_Agree.f x0 x1).bind fun t329 => (if t329 = true then ((redpencilref14_Join.f x0 x1).bind fun t331 => ((redpencilref14_Same.f k x5 t331).bind fun t334 => (if t334 = true then ((redpencilref14_Runes.f k t331).bind fun t335 => ((redpencilref15_Same.f k x6 t335).bind fun t338 => (if t338 = true then (if x7 = 0 then ((redpencillaw15_known.f).bind fun t339 => (some t339)) else (some false)) else (some false)))) else (some false)))) else (if (x5.length : Int) = 0 then (if (x6.length : Int) = 0 then (if x7 = 15 then ((redpencillaw15_known.f).bind fun t330 => (some t330)) else (some false)) else (some false)) else (some false))))
end
def redpencillaw15_EditApplies.f (k : Nat) (l0 : List (S53)) (l1 : List (S53)) : Option (Bool) := if (l0.length : Int) > 40 then (redpencillaw15_EditApplies.j0 k l0 l1 true) else (redpencillaw15_EditApplies.j0 k l0 l1 (decide ((l1.length : Int) > 40)))
set_option maxHeartbeats 8000000 in
set_option maxRecDepth 100000 in
theorem redpencillaw15_EditApplies.calls (k : Nat) (A0 : Option Addr) (c0 : Nat) (l0 : List (S53)) (A1 : Option Addr) (c1 : Nat) (l1 : List (S53)) (r : Bool) (w : World) (hr0 : Kd.C k53 w A0 l0.length l0) (hc0 : l0.length ≤ c0) (hr1 : Kd.C k53 w A1 l1.length l1) (hc1 : l1.length ≤ c1) (h : redpencillaw15_EditApplies.f k l0 l1 = some r) :
  Calls Tryz.prog 6 #[.slice A0 l0.length c0, .slice A1 l1.length c1] w fun e w' => e = .returned (.bool r) ∧ Below w.heap.size w w' := by
 have HR0 := Aside0.mk hr0
 have HC0 := Aside0.mk hc0
 clear hr0 hc0
 have HR1 := Aside0.mk hr1
 have HC1 := Aside0.mk hc1
 clear hr1 hc1
 have HB := Aside0.mk (Below.refl w.heap.size w)
 have H : (if (l0.length : Int) > 40 then (redpencillaw15_EditApplies.j0 k l0 l1 true) else (redpencillaw15_EditApplies.j0 k l0 l1 (decide ((l1.length : Int) > 40)))) = some r := h
 clear h
 have HC3 := Aside0.mk H
 clear H
 go_enter Tryz.func6, Tryz.ntmps6
 go_upto_region 1 with (fail)
 go_cut [16] (fun v16 wc => ∃ (kq : Nat) (x16_2 : Bool), v16 = .bool x16_2 ∧ Aside0 (redpencillaw15_EditApplies.j0 kq l0 l1 x16_2 = some r) ∧ Aside0 (kq ≤ k) ∧ Aside0 (Below w.heap.size w wc))
 case first =>
  have H := HC3.out
  clear HC3
  by_cases c4 : (l0.length : Int) > 40
  ·
   rw [if_pos c4] at H
   have c4b0 : decide (40 < (l0.length : Int)) = true := decide_eq_true c4
   have c4b1 : decide (40 < l0.length) = true := decide_eq_true (by omega)
   clear c4
   (first | rw [c4b0] | (simp only [i64_w, i32_w]; rw [c4b0]) | rw [c4b1] | skip)
   have H' := Aside0.mk H
   clear H
   go_wp2
   go_meet
   case rel => exact ⟨_, (true), (by first | rfl | (simp; done) | (simp [*]; done)), H', ⟨by first | omega | exact Nat.le_refl _⟩, ⟨by repeat (first | (with_reducible first | exact HB.out | apply below_alloc | apply pw_below_drewN | apply below_drew1) | exact HB.out)⟩⟩
  ·
   rw [if_neg c4] at H
   have c4b0 : decide (40 < (l0.length : Int)) = false := decide_eq_false c4
   have c4b1 : decide (40 < l0.length) = false := decide_eq_false (by omega)
   clear c4
   (first | rw [c4b0] | (simp only [i64_w, i32_w]; rw [c4b0]) | rw [c4b1] | skip)
   have H' := Aside0.mk H
   clear H
   go_wp2
   go_meet
   case rel => exact ⟨_, (decide ((l1.length : Int) > 40)), (by first | rfl | (simp; done) | (simp [*]; done)), H', ⟨by first | omega | exact Nat.le_refl _⟩, ⟨by repeat (first | (with_reducible first | exact HB.out | apply below_alloc | apply pw_below_drewN | apply below_drew1) | exact HB.out)⟩⟩
 case rest =>
  clear HC3
  try clear c1
  try clear p2
  try clear c4
  try clear c4b0
  try clear c4b1
  obtain ⟨kq, x16_2, rfl, HA, HJ2, HB⟩ := hcut
  cases kq with
  | zero => exact absurd HA.out (by simp [redpencillaw15_EditApplies.j0])
  | succ kj2 =>
   have H := HA.out
   clear HA
   simp only [redpencillaw15_EditApplies.j0] at H
   by_cases c5 : x16_2 = true
   ·
    subst c5
    have H1 : ((redpencillaw15_known.f).bind fun t316 => (some t316)) = some r := by rw [if_pos rfl] at H; exact H
    clear H
    have H := H1
    clear H1
    replace H := Option.bind_eq_some_iff.mp H
    obtain ⟨t316, A60, H⟩ := H
    replace H : (some t316) = some r := H
    have A6 := Aside0.mk A60
    clear A60
    obtain rfl := Option.some.inj H
    go_wp2_with (first | ((with_reducible refine gate_callee (f := 10) rfl ?_); refine goesL_ (some 17) rfl rfl Tryz.func10 (by kernel_rfl) rfl #[] rfl (by (try simp only [List.map_toArray, List.map_cons, List.map_nil]); first | done | rfl | (simp only [List.length_drop, List.length_take]; rfl)) ?_; (with_reducible refine (redpencillaw15_known.calls  t316 _ A6.out).mono ?_); rintro e w7 ⟨rfl, hb⟩; refine ⟨_, rfl, ?_⟩; have n0_ := Aside0.mk (below_step (by repeat (first | (with_reducible first | exact HB.out | apply below_alloc | apply pw_below_drewN | apply below_drew1) | exact HB.out)) hb); clear HB; have HB := n0_; clear n0_; (try clear hb); (try clear hb2); (try clear hk); (try clear hi)))
    go_ret
    exact ⟨by first | rfl | (simp [errW_none, errW_some] <;> rfl) | (simp [*, errW_none, errW_some] <;> rfl), by repeat (first | (with_reducible first | exact HB.out | apply below_alloc | apply pw_below_drewN | apply below_drew1) | exact HB.out)⟩
   ·
    replace c5 := Bool.eq_false_iff.mpr c5
    subst c5
    have H1 : ((edit_Latest.f kj2 l0).bind fun t317 => ((redpencilref15_Latest.f kj2 l0).bind fun t318 => (if t317 = t318 then ((edit_Apply.f kj2 l0 l1).bind fun bt319 => ((redpencilref14_Store.f l0).bind fun t326 => (if t326 = true then ((redpencilref14_Store.f l1).bind fun t327 => (redpencillaw15_EditApplies.j1 kj2 l0 l1 bt319.1 bt319.2.1 bt319.2.2 (!t327))) else (redpencillaw15_EditApplies.j1 kj2 l0 l1 bt319.1 bt319.2.1 bt319.2.2 true)))) else (some false)))) = some r := by rw [if_neg (show ¬ (false = true) by decide)] at H; exact H
    clear H
    have H := H1
    clear H1
    replace H := Option.bind_eq_some_iff.mp H
    obtain ⟨t317, A80, H⟩ := H
    replace H : ((redpencilref15_Latest.f kj2 l0).bind fun t318 => (if t317 = t318 then ((edit_Apply.f kj2 l0 l1).bind fun bt319 => ((redpencilref14_Store.f l0).bind fun t326 => (if t326 = true then ((redpencilref14_Store.f l1).bind fun t327 => (redpencillaw15_EditApplies.j1 kj2 l0 l1 bt319.1 bt319.2.1 bt319.2.2 (!t327))) else (redpencillaw15_EditApplies.j1 kj2 l0 l1 bt319.1 bt319.2.1 bt319.2.2 true)))) else (some false))) = some r := H
    have A8 := Aside0.mk A80
    clear A80
    replace H := Option.bind_eq_some_iff.mp H
    obtain ⟨t318, A90, H⟩ := H
    replace H : (if t317 = t318 then ((edit_Apply.f kj2 l0 l1).bind fun bt319 => ((redpencilref14_Store.f l0).bind fun t326 => (if t326 = true then ((redpencilref14_Store.f l1).bind fun t327 => (redpencillaw15_EditApplies.j1 kj2 l0 l1 bt319.1 bt319.2.1 bt319.2.2 (!t327))) else (redpencillaw15_EditApplies.j1 kj2 l0 l1 bt319.1 bt319.2.1 bt319.2.2 true)))) else (some false)) = some r := H
    have A9 := Aside0.mk A90
    clear A90
    by_cases c10 : t317 = t318
    ·
     rw [if_pos c10] at H
     have c10b0 : (t317 == t318) = true := beq_iff_eq.mpr c10
     have c10b1 : (t317 != t318) = false := bne_eq_false_iff_eq.mpr c10
     clear c10
     replace H := Option.bind_eq_some_iff.mp H
     obtain ⟨⟨t319, t320, t321⟩, A110, H⟩ := H
     replace H : ((redpencilref14_Store.f l0).bind fun t326 => (if t326 = true then ((redpencilref14_Store.f l1).bind fun t327 => (redpencillaw15_EditApplies.j1 kj2 l0 l1 t319 t320 t321 (!t327))) else (redpencillaw15_EditApplies.j1 kj2 l0 l1 t319 t320 t321 true))) = some r := H
     have A11 := Aside0.mk A110
     clear A110
     have HC12 := Aside0.mk H
     clear H
     go_upto_region 6 with (first | ((with_reducible refine gate_callee (f := 23) rfl ?_); refine goesL_ (some 19) rfl rfl Tryz.func23 (by kernel_rfl) rfl #[.slice A0 l0.length c0] rfl (by (try simp only [List.map_toArray, List.map_cons, List.map_nil]); first | done | rfl | (simp only [List.length_drop, List.length_take]; rfl)) ?_; (with_reducible refine (edit_Latest.calls kj2 _ _ l0 t317 _ ?side1 ?side2 A8.out).mono ?_); (case side1 => repeat (first | exact (Kd.C_below HR0.out HB.out) | (with_reducible refine Kd.C_alloc ?_ _) | (with_reducible refine Kd.C_drewN ?_ _) | (with_reducible refine Kd.C_drew ?_))); (case side2 => exact HC0.out); rintro e w13 ⟨rfl, hb⟩; refine ⟨_, rfl, ?_⟩; have n0_ := Aside0.mk (below_step (by repeat (first | (with_reducible first | exact HB.out | apply below_alloc | apply pw_below_drewN | apply below_drew1) | exact HB.out)) hb); clear HB; have HB := n0_; clear n0_; (try clear hb); (try clear hb2); (try clear hk); (try clear hi)) | ((with_reducible refine gate_callee (f := 24) rfl ?_); refine goesL_ (some 21) rfl rfl Tryz.func24 (by kernel_rfl) rfl #[.slice A0 l0.length c0] rfl (by (try simp only [List.map_toArray, List.map_cons, List.map_nil]); first | done | rfl | (simp only [List.length_drop, List.length_take]; rfl)) ?_; (with_reducible refine (redpencilref15_Latest.calls kj2 _ _ l0 t318 _ ?side1 ?side2 A9.out).mono ?_); (case side1 => repeat (first | exact (Kd.C_below HR0.out HB.out) | (with_reducible refine Kd.C_alloc ?_ _) | (with_reducible refine Kd.C_drewN ?_ _) | (with_reducible refine Kd.C_drew ?_))); (case side2 => exact HC0.out); rintro e w14 ⟨rfl, hb⟩; refine ⟨_, rfl, ?_⟩; have n0_ := Aside0.mk (below_step (by repeat (first | (with_reducible first | exact HB.out | apply below_alloc | apply pw_below_drewN | apply below_drew1) | exact HB.out)) hb); clear HB; have HB := n0_; clear n0_; (try clear hb); (try clear hb2); (try clear hk); (try clear hi)) | ((with_reducible refine gate_callee (f := 25) rfl ?_); refine goesL_ (some 26) rfl rfl Tryz.func25 (by kernel_rfl) rfl #[.slice A0 l0.length c0, .slice A1 l1.length c1] rfl (by (try simp only [List.map_toArray, List.map_cons, List.map_nil]); first | done | rfl | (simp only [List.length_drop, List.length_take]; rfl)) ?_; (with_reducible refine (edit_Apply.calls kj2 _ _ l0 _ _ l1 t319 t320 t321 _ ?side1 ?side2 ?side3 ?side4 A11.out).mono ?_); (case side1 => repeat (first | exact (Kd.C_below HR0.out HB.out) | (with_reducible refine Kd.C_alloc ?_ _) | (with_reducible refine Kd.C_drewN ?_ _) | (with_reducible refine Kd.C_drew ?_))); (case side2 => exact HC0.out); (case side3 => repeat (first | exact (Kd.C_below HR1.out HB.out) | (with_reducible refine Kd.C_alloc ?_ _) | (with_reducible refine Kd.C_drewN ?_ _) | (with_reducible refine Kd.C_drew ?_))); (case side4 => exact HC1.out); rintro e w15 ⟨v322, v324, rfl, ho0, ho1, hb⟩; refine ⟨_, rfl, ?_⟩; have n0_ := Aside0.mk (Kd.R_lower ho0 (below_size (by repeat (first | (with_reducible first | exact HB.out | apply below_alloc | apply pw_below_drewN | apply below_drew1) | exact HB.out)))); have n1_ := Aside0.mk (Kd.R_lower ho1 (below_size (by repeat (first | (with_reducible first | exact HB.out | apply below_alloc | apply pw_below_drewN | apply below_drew1) | exact HB.out)))); have n2_ := Aside0.mk (below_step (by repeat (first | (with_reducible first | exact HB.out | apply below_alloc | apply pw_below_drewN | apply below_drew1) | exact HB.out)) hb); clear HB; have HO323 := n0_; have HO325 := n1_; have HB := n2_; clear n0_ n1_ n2_; (try clear hb); (try clear hb2); (try clear hk); (try clear hi); (try clear ho0); (try clear ho1)))
     (try simp only [Act.put, List.setIfInBounds_toArray, List.set_cons_zero, List.set_cons_succ])
     go_cut [30] (fun v30 wc => ∃ (kq : Nat) (x30_11 : Bool), v30 = .bool x30_11 ∧ Aside0 (redpencillaw15_EditApplies.j1 kq l0 l1 t319 t320 t321 x30_11 = some r) ∧ Aside0 (kq ≤ kj2) ∧ Aside0 (Kd.R k53 53 wc w.heap.size (fun _ => True) v322 t319) ∧ Aside0 (Kd.R (Kd.int .i32) 21 wc w.heap.size (fun _ => True) v324 t320) ∧ Aside0 (Below w.heap.size w wc))
     case first =>
      have H := HC12.out
      clear HC12
      replace H := Option.bind_eq_some_iff.mp H
      obtain ⟨t326, A160, H⟩ := H
      replace H : (if t326 = true then ((redpencilref14_Store.f l1).bind fun t327 => (redpencillaw15_EditApplies.j1 kj2 l0 l1 t319 t320 t321 (!t327))) else (redpencillaw15_EditApplies.j1 kj2 l0 l1 t319 t320 t321 true)) = some r := H
      have A16 := Aside0.mk A160
      clear A160
      by_cases c17 : t326 = true
      ·
       subst c17
       have H1 : ((redpencilref14_Store.f l1).bind fun t327 => (redpencillaw15_EditApplies.j1 kj2 l0 l1 t319 t320 t321 (!t327))) = some r := by rw [if_pos rfl] at H; exact H
       clear H
       have H := H1
       clear H1
       replace H := Option.bind_eq_some_iff.mp H
       obtain ⟨t327, A180, H⟩ := H
       replace H : (redpencillaw15_EditApplies.j1 kj2 l0 l1 t319 t320 t321 (!t327)) = some r := H
       have A18 := Aside0.mk A180
       clear A180
       have H' := Aside0.mk H
       clear H
       go_wp2_with (first | ((with_reducible refine gate_callee (f := 26) rfl ?_); refine goesL_ (some 32) rfl rfl Tryz.func26 (by kernel_rfl) rfl #[.slice A0 l0.length c0] rfl (by (try simp only [List.map_toArray, List.map_cons, List.map_nil]); first | done | rfl | (simp only [List.length_drop, List.length_take]; rfl)) ?_; (with_reducible refine (redpencilref14_Store.calls _ _ l0 true _ ?side1 ?side2 A16.out).mono ?_); (case side1 => repeat (first | exact (Kd.C_below HR0.out HB.out) | (with_reducible refine Kd.C_alloc ?_ _) | (with_reducible refine Kd.C_drewN ?_ _) | (with_reducible refine Kd.C_drew ?_))); (case side2 => exact HC0.out); rintro e w19 ⟨rfl, hb⟩; refine ⟨_, rfl, ?_⟩; have n0_ := Aside0.mk (Kd.R_below (by (with_reducible repeat (first | apply Kd.R_alloc | apply Kd.R_drewN | apply Kd.R_drew)); exact HO323.out) hb); have n1_ := Aside0.mk (Kd.R_below (by (with_reducible repeat (first | apply Kd.R_alloc | apply Kd.R_drewN | apply Kd.R_drew)); exact HO325.out) hb); have n2_ := Aside0.mk (below_step (by repeat (first | (with_reducible first | exact HB.out | apply below_alloc | apply pw_below_drewN | apply below_drew1) | exact HB.out)) hb); clear HO323; clear HO325; clear HB; have HO323 := n0_; have HO325 := n1_; have HB := n2_; clear n0_ n1_ n2_; (try clear hb); (try clear hb2); (try clear hk); (try clear hi)) | (go_at_call 26; (with_reducible refine (redpencilref14_Store.calls _ _ l1 t327 _ ?side1 ?side2 A18.out).mono ?_); (case side1 => repeat (first | exact (Kd.C_below HR1.out HB.out) | (with_reducible refine Kd.C_alloc ?_ _) | (with_reducible refine Kd.C_drewN ?_ _) | (with_reducible refine Kd.C_drew ?_))); (case side2 => exact HC1.out); rintro e w20 ⟨rfl, hb⟩; have n0_ := Aside0.mk (Kd.R_below (by (with_reducible repeat (first | apply Kd.R_alloc | apply Kd.R_drewN | apply Kd.R_drew)); exact HO323.out) hb); have n1_ := Aside0.mk (Kd.R_below (by (with_reducible repeat (first | apply Kd.R_alloc | apply Kd.R_drewN | apply Kd.R_drew)); exact HO325.out) hb); have n2_ := Aside0.mk (below_step (by repeat (first | (with_reducible first | exact HB.out | apply below_alloc | apply pw_below_drewN | apply below_drew1) | exact HB.out)) hb); clear HO323; clear HO325; clear HB; have HO323 := n0_; have HO325 := n1_; have HB := n2_; clear n0_ n1_ n2_; (try clear hb); (try clear hb2); (try clear hk); (try clear hi)))
       go_meet
       case rel => exact ⟨_, (!t327), (by first | rfl | (simp; done) | (simp [*]; done)), H', ⟨by have := HJ2.out; first | omega | exact Nat.le_refl _⟩, ⟨by (with_reducible repeat (first | apply Kd.R_alloc | apply Kd.R_drewN | apply Kd.R_drew)); exact HO323.out⟩, ⟨by (with_reducible repeat (first | apply Kd.R_alloc | apply Kd.R_drewN | apply Kd.R_drew)); exact HO325.out⟩, ⟨by repeat (first | (with_reducible first | exact HB.out | apply below_alloc | apply pw_below_drewN | apply below_drew1) | exact HB.out)⟩⟩
      ·
       replace c17 := Bool.eq_false_iff.mpr c17
       subst c17
       have H1 : (redpencillaw15_EditApplies.j1 kj2 l0 l1 t319 t320 t321 true) = some r := by rw [if_neg (show ¬ (false = true) by decide)] at H; exact H
       clear H
       have H := H1
       clear H1
       have H' := Aside0.mk H
       clear H
       go_wp2_with (first | ((with_reducible refine gate_callee (f := 26) rfl ?_); refine goesL_ (some 32) rfl rfl Tryz.func26 (by kernel_rfl) rfl #[.slice A0 l0.length c0] rfl (by (try simp only [List.map_toArray, List.map_cons, List.map_nil]); first | done | rfl | (simp only [List.length_drop, List.length_take]; rfl)) ?_; (with_reducible refine (redpencilref14_Store.calls _ _ l0 false _ ?side1 ?side2 A16.out).mono ?_); (case side1 => repeat (first | exact (Kd.C_below HR0.out HB.out) | (with_reducible refine Kd.C_alloc ?_ _) | (with_reducible refine Kd.C_drewN ?_ _) | (with_reducible refine Kd.C_drew ?_))); (case side2 => exact HC0.out); rintro e w21 ⟨rfl, hb⟩; refine ⟨_, rfl, ?_⟩; have n0_ := Aside0.mk (Kd.R_below (by (with_reducible repeat (first | apply Kd.R_alloc | apply Kd.R_drewN | apply Kd.R_drew)); exact HO323.out) hb); have n1_ := Aside0.mk (Kd.R_below (by (with_reducible repeat (first | apply Kd.R_alloc | apply Kd.R_drewN | apply Kd.R_drew)); exact HO325.out) hb); have n2_ := Aside0.mk (below_step (by repeat (first | (with_reducible first | exact HB.out | apply below_alloc | apply pw_below_drewN | apply below_drew1) | exact HB.out)) hb); clear HO323; clear HO325; clear HB; have HO323 := n0_; have HO325 := n1_; have HB := n2_; clear n0_ n1_ n2_; (try clear hb); (try clear hb2); (try clear hk); (try clear hi)))
       go_meet
       case rel => exact ⟨_, (true), (by first | rfl | (simp; done) | (simp [*]; done)), H', ⟨by have := HJ2.out; first | omega | exact Nat.le_refl _⟩, ⟨by (with_reducible repeat (first | apply Kd.R_alloc | apply Kd.R_drewN | apply Kd.R_drew)); exact HO323.out⟩, ⟨by (with_reducible repeat (first | apply Kd.R_alloc | apply Kd.R_drewN | apply Kd.R_drew)); exact HO325.out⟩, ⟨by repeat (first | (with_reducible first | exact HB.out | apply below_alloc | apply pw_below_drewN | apply below_drew1) | exact HB.out)⟩⟩
     case rest =>
      clear HC12
      try clear c1
      try clear c2
      try clear p2
      try clear c4
      try clear c4b0
      try clear c4b1
      try clear c5
      try clear c6
      try clear c10
      try clear c10b0
      try clear c10b1
      try clear c17
      try clear p2
      obtain ⟨kq, x30_11, rfl, HA, HJ11, HO_5, HO_6, HB⟩ := hcut
      cases kq with
      | zero => exact absurd HA.out (by simp [redpencillaw15_EditApplies.j1])
      | succ kj11 =>
       have H := HA.out
       clear HA
       simp only [redpencillaw15_EditApplies.j1] at H
       by_cases c22 : x30_11 = true
       ·
        subst c22
        have H1 : (if (t319.length : Int) = 0 then (if (t320.length : Int) = 0 then (if t321 = 2 then ((redpencillaw15_known.f).bind fun t328 => (some t328)) else (some false)) else (some false)) else (some false)) = some r := by rw [if_pos rfl] at H; exact H
        clear H
        have H := H1
        clear H1
        by_cases c23 : (t319.length : Int) = 0
        ·
         rw [if_pos c23] at H
         have c23b0 : ((t319.length : Int) == 0) = true := beq_iff_eq.mpr c23
         have c23b1 : ((t319.length : Int) != 0) = false := bne_eq_false_iff_eq.mpr c23
         clear c23
         by_cases c24 : (t320.length : Int) = 0
         ·
          rw [if_pos c24] at H
          have c24b0 : ((t320.length : Int) == 0) = true := beq_iff_eq.mpr c24
          have c24b1 : ((t320.length : Int) != 0) = false := bne_eq_false_iff_eq.mpr c24
          clear c24
          by_cases c25 : t321 = 2
          ·
           rw [if_pos c25] at H
           have c25b0 : (t321 == 2) = true := beq_iff_eq.mpr c25
           have c25b1 : (t321 != 2) = false := bne_eq_false_iff_eq.mpr c25
           clear c25
           replace H := Option.bind_eq_some_iff.mp H
           obtain ⟨t328, A260, H⟩ := H
           replace H : (some t328) = some r := H
           have A26 := Aside0.mk A260
           clear A260
           obtain rfl := Option.some.inj H
           obtain ⟨Ao27, co27, eo27⟩ := Kd.R_slice HO_5.out
           subst eo27
           obtain ⟨Ao28, co28, eo28⟩ := Kd.R_slice HO_6.out
           subst eo28
           go_wp2_with (first | (go_at_call 10; (with_reducible refine (redpencillaw15_known.calls  t328 _ A26.out).mono ?_); rintro e w29 ⟨rfl, hb⟩; have n0_ := Aside0.mk (Kd.R_below (by (with_reducible repeat (first | apply Kd.R_alloc | apply Kd.R_drewN | apply Kd.R_drew)); exact HO_5.out) hb); have n1_ := Aside0.mk (Kd.R_below (by (with_reducible repeat (first | apply Kd.R_alloc | apply Kd.R_drewN | apply Kd.R_drew)); exact HO_6.out) hb); have n2_ := Aside0.mk (below_step (by repeat (first | (with_reducible first | exact HB.out | apply below_alloc | apply pw_below_drewN | apply below_drew1) | exact HB.out)) hb); clear HO_5; clear HO_6; clear HB; have HO_5 := n0_; have HO_6 := n1_; have HB := n2_; clear n0_ n1_ n2_; (try clear hb); (try clear hb2); (try clear hk); (try clear hi)))
           go_ret
           exact ⟨by first | rfl | (simp [errW_none, errW_some] <;> rfl) | (simp [*, errW_none, errW_some] <;> rfl), by repeat (first | (with_reducible first | exact HB.out | apply below_alloc | apply pw_below_drewN | apply below_drew1) | exact HB.out)⟩
          ·
           rw [if_neg c25] at H
           have c25b0 : (t321 == 2) = false := beq_eq_false_iff_ne.mpr c25
           have c25b1 : (t321 != 2) = true := bne_iff_ne.mpr c25
           obtain rfl := Option.some.inj H
           obtain ⟨Ao30, co30, eo30⟩ := Kd.R_slice HO_5.out
           subst eo30
           obtain ⟨Ao31, co31, eo31⟩ := Kd.R_slice HO_6.out
           subst eo31
           go_wp2
           go_ret
           exact ⟨by first | rfl | (simp [errW_none, errW_some] <;> rfl) | (simp [*, errW_none, errW_some] <;> rfl), by repeat (first | (with_reducible first | exact HB.out | apply below_alloc | apply pw_below_drewN | apply below_drew1) | exact HB.out)⟩
         ·
          rw [if_neg c24] at H
          have c24b0 : ((t320.length : Int) == 0) = false := beq_eq_false_iff_ne.mpr c24
          have c24b1 : ((t320.length : Int) != 0) = true := bne_iff_ne.mpr c24
          have c24b2 : ¬ (t320 = []) := fun h_ => c24 (by rw [h_]; rfl)
          obtain rfl := Option.some.inj H
          obtain ⟨Ao32, co32, eo32⟩ := Kd.R_slice HO_5.out
          subst eo32
          obtain ⟨Ao33, co33, eo33⟩ := Kd.R_slice HO_6.out
          subst eo33
          go_wp2
          go_ret
          exact ⟨by first | rfl | (simp [errW_none, errW_some] <;> rfl) | (simp [*, errW_none, errW_some] <;> rfl), by repeat (first | (with_reducible first | exact HB.out | apply below_alloc | apply pw_below_drewN | apply below_drew1) | exact HB.out)⟩
        ·
         rw [if_neg c23] at H
         have c23b0 : ((t319.length : Int) == 0) = false := beq_eq_false_iff_ne.mpr c23
         have c23b1 : ((t319.length : Int) != 0) = true := bne_iff_ne.mpr c23
         have c23b2 : ¬ (t319 = []) := fun h_ => c23 (by rw [h_]; rfl)
         obtain rfl := Option.some.inj H
         obtain ⟨Ao34, co34, eo34⟩ := Kd.R_slice HO_5.out
         subst eo34
         go_wp2
         go_ret
         exact ⟨by first | rfl | (simp [errW_none, errW_some] <;> rfl) | (simp [*, errW_none, errW_some] <;> rfl), by repeat (first | (with_reducible first | exact HB.out | apply below_alloc | apply pw_below_drewN | apply below_drew1) | exact HB.out)⟩
       ·
        replace c22 := Bool.eq_false_iff.mpr c22
        subst c22
        have H1 : ((redpencilref14_Agree.f l0 l1).bind fun t329 => (if t329 = true then ((redpencilref14_Join.f l0 l1).bind fun t331 => ((redpencilref14_Same.f kj11 t319 t331).bind fun t334 => (if t334 = true then ((redpencilref14_Runes.f kj11 t331).bind fun t335 => ((redpencilref15_Same.f kj11 t320 t335).bind fun t338 => (if t338 = true then (if t321 = 0 then ((redpencillaw15_known.f).bind fun t339 => (some t339)) else (some false)) else (some false)))) else (some false)))) else (if (t319.length : Int) = 0 then (if (t320.length : Int) = 0 then (if t321 = 15 then ((redpencillaw15_known.f).bind fun t330 => (some t330)) else (some false)) else (some false)) else (some false)))) = some r := by rw [if_neg (show ¬ (false = true) by decide)] at H; exact H
        clear H
        have H := H1
        clear H1
        replace H := Option.bind_eq_some_iff.mp H
        obtain ⟨t329, A350, H⟩ := H
        replace H : (if t329 = true then ((redpencilref14_Join.f l0 l1).bind fun t331 => ((redpencilref14_Same.f kj11 t319 t331).bind fun t334 => (if t334 = true then ((redpencilref14_Runes.f kj11 t331).bind fun t335 => ((redpencilref15_Same.f kj11 t320 t335).bind fun t338 => (if t338 = true then (if t321 = 0 then ((redpencillaw15_known.f).bind fun t339 => (some t339)) else (some false)) else (some false)))) else (some false)))) else (if (t319.length : Int) = 0 then (if (t320.length : Int) = 0 then (if t321 = 15 then ((redpencillaw15_known.f).bind fun t330 => (some t330)) else (some false)) else (some false)) else (some false))) = some r := H
        have A35 := Aside0.mk A350
        clear A350
        by_cases c36 : t329 = true
        ·
         subst c36
         have H1 : ((redpencilref14_Join.f l0 l1).bind fun t331 => ((redpencilref14_Same.f kj11 t319 t331).bind fun t334 => (if t334 = true then ((redpencilref14_Runes.f kj11 t331).bind fun t335 => ((redpencilref15_Same.f kj11 t320 t335).bind fun t338 => (if t338 = true then (if t321 = 0 then ((redpencillaw15_known.f).bind fun t339 => (some t339)) else (some false)) else (some false)))) else (some false)))) = some r := by rw [if_pos rfl] at H; exact H
         clear H
         have H := H1
         clear H1
         replace H := Option.bind_eq_some_iff.mp H
         obtain ⟨t331, A370, H⟩ := H
         replace H : ((redpencilref14_Same.f kj11 t319 t331).bind fun t334 => (if t334 = true then ((redpencilref14_Runes.f kj11 t331).bind fun t335 => ((redpencilref15_Same.f kj11 t320 t335).bind fun t338 => (if t338 = true then (if t321 = 0 then ((redpencillaw15_known.f).bind fun t339 => (some t339)) else (some false)) else (some false)))) else (some false))) = some r := H
         have A37 := Aside0.mk A370
         clear A370
         replace H := Option.bind_eq_some_iff.mp H
         obtain ⟨t334, A380, H⟩ := H
         replace H : (if t334 = true then ((redpencilref14_Runes.f kj11 t331).bind fun t335 => ((redpencilref15_Same.f kj11 t320 t335).bind fun t338 => (if t338 = true then (if t321 = 0 then ((redpencillaw15_known.f).bind fun t339 => (some t339)) else (some false)) else (some false)))) else (some false)) = some r := H
         have A38 := Aside0.mk A380
         clear A380
         by_cases c39 : t334 = true
         ·
          subst c39
          have H1 : ((redpencilref14_Runes.f kj11 t331).bind fun t335 => ((redpencilref15_Same.f kj11 t320 t335).bind fun t338 => (if t338 = true then (if t321 = 0 then ((redpencillaw15_known.f).bind fun t339 => (some t339)) else (some false)) else (some false)))) = some r := by rw [if_pos rfl] at H; exact H
          clear H
          have H := H1
          clear H1
          replace H := Option.bind_eq_some_iff.mp H
          obtain ⟨t335, A400, H⟩ := H
          replace H : ((redpencilref15_Same.f kj11 t320 t335).bind fun t338 => (if t338 = true then (if t321 = 0 then ((redpencillaw15_known.f).bind fun t339 => (some t339)) else (some false)) else (some false))) = some r := H
          have A40 := Aside0.mk A400
          clear A400
          replace H := Option.bind_eq_some_iff.mp H
          obtain ⟨t338, A410, H⟩ := H
          replace H : (if t338 = true then (if t321 = 0 then ((redpencillaw15_known.f).bind fun t339 => (some t339)) else (some false)) else (some false)) = some r := H
          have A41 := Aside0.mk A410
          clear A410
          by_cases c42 : t338 = true
          ·
           subst c42
           have H1 : (if t321 = 0 then ((redpencillaw15_known.f).bind fun t339 => (some t339)) else (some false)) = some r := by rw [if_pos rfl] at H; exact H
           clear H
           have H := H1
           clear H1
           by_cases c43 : t321 = 0
           ·
            rw [if_pos c43] at H
            have c43b0 : (t321 == 0) = true := beq_iff_eq.mpr c43
            have c43b1 : (t321 != 0) = false := bne_eq_false_iff_eq.mpr c43
            clear c43
            replace H := Option.bind_eq_some_iff.mp H
            obtain ⟨t339, A440, H⟩ := H
            replace H : (some t339) = some r := H
            have A44 := Aside0.mk A440
            clear A440
            obtain rfl := Option.some.inj H
            go_wp2_with (first | ((with_reducible refine gate_callee (f := 27) rfl ?_); refine goesL_ (some 57) rfl rfl Tryz.func27 (by kernel_rfl) rfl #[.slice A0 l0.length c0, .slice A1 l1.length c1] rfl (by (try simp only [List.map_toArray, List.map_cons, List.map_nil]); first | done | rfl | (simp only [List.length_drop, List.length_take]; rfl)) ?_; (with_reducible refine (redpencilref14_Agree.calls _ _ l0 _ _ l1 true _ ?side1 ?side2 ?side3 ?side4 A35.out).mono ?_); (case side1 => repeat (first | exact (Kd.C_below HR0.out HB.out) | (with_reducible refine Kd.C_alloc ?_ _) | (with_reducible refine Kd.C_drewN ?_ _) | (with_reducible refine Kd.C_drew ?_))); (case side2 => exact HC0.out); (case side3 => repeat (first | exact (Kd.C_below HR1.out HB.out) | (with_reducible refine Kd.C_alloc ?_ _) | (with_reducible refine Kd.C_drewN ?_ _) | (with_reducible refine Kd.C_drew ?_))); (case side4 => exact HC1.out); rintro e w45 ⟨rfl, hb⟩; refine ⟨_, rfl, ?_⟩; have n0_ := Aside0.mk (Kd.R_below (by (with_reducible repeat (first | apply Kd.R_alloc | apply Kd.R_drewN | apply Kd.R_drew)); exact HO_5.out) hb); have n1_ := Aside0.mk (Kd.R_below (by (with_reducible repeat (first | apply Kd.R_alloc | apply Kd.R_drewN | apply Kd.R_drew)); exact HO_6.out) hb); have n2_ := Aside0.mk (below_step (by repeat (first | (with_reducible first | exact HB.out | apply below_alloc | apply pw_below_drewN | apply below_drew1) | exact HB.out)) hb); clear HO_5; clear HO_6; clear HB; have HO_5 := n0_; have HO_6 := n1_; have HB := n2_; clear n0_ n1_ n2_; (try clear hb); (try clear hb2); (try clear hk); (try clear hi)) | ((with_reducible refine gate_callee (f := 28) rfl ?_); refine goesL_ (some 76) rfl rfl Tryz.func28 (by kernel_rfl) rfl #[.slice A0 l0.length c0, .slice A1 l1.length c1] rfl (by (try simp only [List.map_toArray, List.map_cons, List.map_nil]); first | done | rfl | (simp only [List.length_drop, List.length_take]; rfl)) ?_; (with_reducible refine (redpencilref14_Join.calls _ _ l0 _ _ l1 t331 _ ?side1 ?side2 ?side3 ?side4 A37.out).mono ?_); (case side1 => repeat (first | exact (Kd.C_below HR0.out HB.out) | (with_reducible refine Kd.C_alloc ?_ _) | (with_reducible refine Kd.C_drewN ?_ _) | (with_reducible refine Kd.C_drew ?_))); (case side2 => exact HC0.out); (case side3 => repeat (first | exact (Kd.C_below HR1.out HB.out) | (with_reducible refine Kd.C_alloc ?_ _) | (with_reducible refine Kd.C_drewN ?_ _) | (with_reducible refine Kd.C_drew ?_))); (case side4 => exact HC1.out); rintro e w46 ⟨v332, rfl, ho0, hb⟩; refine ⟨_, rfl, ?_⟩; have n0_ := Aside0.mk (Kd.R_elder' (by (with_reducible repeat (first | apply Kd.R_alloc | apply Kd.R_drewN | apply Kd.R_drew)); exact HO_5.out) (Kd.R_base ho0) hb); have n1_ := Aside0.mk (Kd.R_below (by (with_reducible repeat (first | apply Kd.R_alloc | apply Kd.R_drewN | apply Kd.R_drew)); exact HO_6.out) hb); have n2_ := Aside0.mk (Kd.R_lower (Kd.R_new' ho0 (Kd.R_lt (by (with_reducible repeat (first | apply Kd.R_alloc | apply Kd.R_drewN | apply Kd.R_drew)); exact HO_5.out))) (below_size (by repeat (first | (with_reducible first | exact HB.out | apply below_alloc | apply pw_below_drewN | apply below_drew1) | exact HB.out)))); have n3_ := Aside0.mk (below_step (by repeat (first | (with_reducible first | exact HB.out | apply below_alloc | apply pw_below_drewN | apply below_drew1) | exact HB.out)) hb); clear HO_5; clear HO_6; clear HB; have HO_5 := n0_; have HO_6 := n1_; have HO333 := n2_; have HB := n3_; clear n0_ n1_ n2_ n3_; (try clear hb); (try clear hb2); (try clear hk); (try clear hi); (try clear ho0); obtain ⟨Ao47, co47, eo47⟩ := Kd.R_slice HO_5.out; subst eo47; obtain ⟨Ao48, co48, eo48⟩ := Kd.R_slice HO333.out; subst eo48) | ((with_reducible refine gate_callee (f := 20) rfl ?_); refine goesL_ (some 79) rfl rfl Tryz.func20 (by kernel_rfl) rfl #[.slice Ao47 t319.length co47, .slice Ao48 t331.length co48] rfl (by (try simp only [List.map_toArray, List.map_cons, List.map_nil]); first | done | rfl | (simp only [List.length_drop, List.length_take]; rfl)) ?_; (with_reducible refine (redpencilref14_Same.calls kj11 _ _ t319 _ _ t331 true _ ?side1 ?side2 ?side3 ?side4 A38.out).mono ?_); (case side1 => repeat (first | exact (Kd.R_reads' HO_5.out).2.2 | (with_reducible refine Kd.C_alloc ?_ _) | (with_reducible refine Kd.C_drewN ?_ _) | (with_reducible refine Kd.C_drew ?_))); (case side2 => exact (Kd.R_reads' HO_5.out).2.1); (case side3 => repeat (first | exact (Kd.R_reads' HO333.out).2.2 | (with_reducible refine Kd.C_alloc ?_ _) | (with_reducible refine Kd.C_drewN ?_ _) | (with_reducible refine Kd.C_drew ?_))); (case side4 => exact (Kd.R_reads' HO333.out).2.1); rintro e w' ⟨rfl, ⟨nd, rfl⟩⟩; refine ⟨_, rfl, ?_⟩) | (go_at_call 30; (with_reducible refine (redpencilref14_Runes.calls kj11 _ _ t331 t335 _ ?side1 ?side2 A40.out).mono ?_); (case side1 => repeat (first | exact (Kd.R_reads' HO333.out).2.2 | (with_reducible refine Kd.C_alloc ?_ _) | (with_reducible refine Kd.C_drewN ?_ _) | (with_reducible refine Kd.C_drew ?_))); (case side2 => exact (Kd.R_reads' HO333.out).2.1); rintro e w49 ⟨v336, rfl, ho0, hb⟩; have n0_ := Aside0.mk (Kd.R_below (by (with_reducible repeat (first | apply Kd.R_alloc | apply Kd.R_drewN | apply Kd.R_drew)); exact HO_5.out) hb); have n1_ := Aside0.mk (Kd.R_elder' (by (with_reducible repeat (first | apply Kd.R_alloc | apply Kd.R_drewN | apply Kd.R_drew)); exact HO_6.out) (Kd.R_base ho0) hb); have n2_ := Aside0.mk (Kd.R_below (by (with_reducible repeat (first | apply Kd.R_alloc | apply Kd.R_drewN | apply Kd.R_drew)); exact HO333.out) hb); have n3_ := Aside0.mk (Kd.R_lower (Kd.R_new' ho0 (Kd.R_lt (by (with_reducible repeat (first | apply Kd.R_alloc | apply Kd.R_drewN | apply Kd.R_drew)); exact HO_6.out))) (below_size (by repeat (first | (with_reducible first | exact HB.out | apply below_alloc | apply pw_below_drewN | apply below_drew1) | exact HB.out)))); have n4_ := Aside0.mk (below_step (by repeat (first | (with_reducible first | exact HB.out | apply below_alloc | apply pw_below_drewN | apply below_drew1) | exact HB.out)) hb); clear HO_5; clear HO_6; clear HO333; clear HB; have HO_5 := n0_; have HO_6 := n1_; have HO333 := n2_; have HO337 := n3_; have HB := n4_; clear n0_ n1_ n2_ n3_ n4_; (try clear hb); (try clear hb2); (try clear hk); (try clear hi); (try clear ho0); obtain ⟨Ao50, co50, eo50⟩ := Kd.R_slice HO_6.out; subst eo50; obtain ⟨Ao51, co51, eo51⟩ := Kd.R_slice HO337.out; subst eo51) | (go_at_call 29; (with_reducible refine (redpencilref15_Same.calls kj11 _ _ t320 _ _ t335 true _ ?side1 ?side2 ?side3 ?side4 A41.out).mono ?_); (case side1 => repeat (first | exact (Kd.R_reads' HO_6.out).2.2 | (with_reducible refine Kd.C_alloc ?_ _) | (with_reducible refine Kd.C_drewN ?_ _) | (with_reducible refine Kd.C_drew ?_))); (case side2 => exact (Kd.R_reads' HO_6.out).2.1); (case side3 => repeat (first | exact (Kd.R_reads' HO337.out).2.2 | (with_reducible refine Kd.C_alloc ?_ _) | (with_reducible refine Kd.C_drewN ?_ _) | (with_reducible refine Kd.C_drew ?_))); (case side4 => exact (Kd.R_reads' HO337.out).2.1); rintro e w' ⟨rfl, ⟨nd, rfl⟩⟩) | (go_at_call 10; (with_reducible refine (redpencillaw15_known.calls  t339 _ A44.out).mono ?_); rintro e w52 ⟨rfl, hb⟩; have n0_ := Aside0.mk (Kd.R_below (by (with_reducible repeat (first | apply Kd.R_alloc | apply Kd.R_drewN | apply Kd.R_drew)); exact HO_5.out) hb); have n1_ := Aside0.mk (Kd.R_below (by (with_reducible repeat (first | apply Kd.R_alloc | apply Kd.R_drewN | apply Kd.R_drew)); exact HO_6.out) hb); have n2_ := Aside0.mk (Kd.R_below (by (with_reducible repeat (first | apply Kd.R_alloc | apply Kd.R_drewN | apply Kd.R_drew)); exact HO333.out) hb); have n3_ := Aside0.mk (Kd.R_below (by (with_reducible repeat (first | apply Kd.R_alloc | apply Kd.R_drewN | apply Kd.R_drew)); exact HO337.out) hb); have n4_ := Aside0.mk (below_step (by repeat (first | (with_reducible first | exact HB.out | apply below_alloc | apply pw_below_drewN | apply below_drew1) | exact HB.out)) hb); clear HO_5; clear HO_6; clear HO333; clear HO337; clear HB; have HO_5 := n0_; have HO_6 := n1_; have HO333 := n2_; have HO337 := n3_; have HB := n4_; clear n0_ n1_ n2_ n3_ n4_; (try clear hb); (try clear hb2); (try clear hk); (try clear hi)))
            go_ret
            exact ⟨by first | rfl | (simp [errW_none, errW_some] <;> rfl) | (simp [*, errW_none, errW_some] <;> rfl), by repeat (first | (with_reducible first | exact HB.out | apply below_alloc | apply pw_below_drewN | apply below_drew1) | exact HB.out)⟩
           ·
            rw [if_neg c43] at H
            have c43b0 : (t321 == 0) = false := beq_eq_false_iff_ne.mpr c43
            have c43b1 : (t321 != 0) = true := bne_iff_ne.mpr c43
            obtain rfl := Option.some.inj H
            go_wp2_with (first | ((with_reducible refine gate_callee (f := 27) rfl ?_); refine goesL_ (some 57) rfl rfl Tryz.func27 (by kernel_rfl) rfl #[.slice A0 l0.length c0, .slice A1 l1.length c1] rfl (by (try simp only [List.map_toArray, List.map_cons, List.map_nil]); first | done | rfl | (simp only [List.length_drop, List.length_take]; rfl)) ?_; (with_reducible refine (redpencilref14_Agree.calls _ _ l0 _ _ l1 true _ ?side1 ?side2 ?side3 ?side4 A35.out).mono ?_); (case side1 => repeat (first | exact (Kd.C_below HR0.out HB.out) | (with_reducible refine Kd.C_alloc ?_ _) | (with_reducible refine Kd.C_drewN ?_ _) | (with_reducible refine Kd.C_drew ?_))); (case side2 => exact HC0.out); (case side3 => repeat (first | exact (Kd.C_below HR1.out HB.out) | (with_reducible refine Kd.C_alloc ?_ _) | (with_reducible refine Kd.C_drewN ?_ _) | (with_reducible refine Kd.C_drew ?_))); (case side4 => exact HC1.out); rintro e w53 ⟨rfl, hb⟩; refine ⟨_, rfl, ?_⟩; have n0_ := Aside0.mk (Kd.R_below (by (with_reducible repeat (first | apply Kd.R_alloc | apply Kd.R_drewN | apply Kd.R_drew)); exact HO_5.out) hb); have n1_ := Aside0.mk (Kd.R_below (by (with_reducible repeat (first | apply Kd.R_alloc | apply Kd.R_drewN | apply Kd.R_drew)); exact HO_6.out) hb); have n2_ := Aside0.mk (below_step (by repeat (first | (with_reducible first | exact HB.out | apply below_alloc | apply pw_below_drewN | apply below_drew1) | exact HB.out)) hb); clear HO_5; clear HO_6; clear HB; have HO_5 := n0_; have HO_6 := n1_; have HB := n2_; clear n0_ n1_ n2_; (try clear hb); (try clear hb2); (try clear hk); (try clear hi)) | ((with_reducible refine gate_callee (f := 28) rfl ?_); refine goesL_ (some 76) rfl rfl Tryz.func28 (by kernel_rfl) rfl #[.slice A0 l0.length c0, .slice A1 l1.length c1] rfl (by (try simp only [List.map_toArray, List.map_cons, List.map_nil]); first | done | rfl | (simp only [List.length_drop, List.length_take]; rfl)) ?_; (with_reducible refine (redpencilref14_Join.calls _ _ l0 _ _ l1 t331 _ ?side1 ?side2 ?side3 ?side4 A37.out).mono ?_); (case side1 => repeat (first | exact (Kd.C_below HR0.out HB.out) | (with_reducible refine Kd.C_alloc ?_ _) | (with_reducible refine Kd.C_drewN ?_ _) | (with_reducible refine Kd.C_drew ?_))); (case side2 => exact HC0.out); (case side3 => repeat (first | exact (Kd.C_below HR1.out HB.out) | (with_reducible refine Kd.C_alloc ?_ _) | (with_reducible refine Kd.C_drewN ?_ _) | (with_reducible refine Kd.C_drew ?_))); (case side4 => exact HC1.out); rintro e w54 ⟨v332, rfl, ho0, hb⟩; refine ⟨_, rfl, ?_⟩; have n0_ := Aside0.mk (Kd.R_elder' (by (with_reducible repeat (first | apply Kd.R_alloc | apply Kd.R_drewN | apply Kd.R_drew)); exact HO_5.out) (Kd.R_base ho0) hb); have n1_ := Aside0.mk (Kd.R_below (by (with_reducible repeat (first | apply Kd.R_alloc | apply Kd.R_drewN | apply Kd.R_drew)); exact HO_6.out) hb); have n2_ := Aside0.mk (Kd.R_lower (Kd.R_new' ho0 (Kd.R_lt (by (with_reducible repeat (first | apply Kd.R_alloc | apply Kd.R_drewN | apply Kd.R_drew)); exact HO_5.out))) (below_size (by repeat (first | (with_reducible first | exact HB.out | apply below_alloc | apply pw_below_drewN | apply below_drew1) | exact HB.out)))); have n3_ := Aside0.mk (below_step (by repeat (first | (with_reducible first | exact HB.out | apply below_alloc | apply pw_below_drewN | apply below_drew1) | exact HB.out)) hb); clear HO_5; clear HO_6; clear HB; have HO_5 := n0_; have HO_6 := n1_; have HO333 := n2_; have HB := n3_; clear n0_ n1_ n2_ n3_; (try clear hb); (try clear hb2); (try clear hk); (try clear hi); (try clear ho0); obtain ⟨Ao55, co55, eo55⟩ := Kd.R_slice HO_5.out; subst eo55; obtain ⟨Ao56, co56, eo56⟩ := Kd.R_slice HO333.out; subst eo56) | ((with_reducible refine gate_callee (f := 20) rfl ?_); refine goesL_ (some 79) rfl rfl Tryz.func20 (by kernel_rfl) rfl #[.slice Ao55 t319.length co55, .slice Ao56 t331.length co56] rfl (by (try simp only [List.map_toArray, List.map_cons, List.map_nil]); first | done | rfl | (simp only [List.length_drop, List.length_take]; rfl)) ?_; (with_reducible refine (redpencilref14_Same.calls kj11 _ _ t319 _ _ t331 true _ ?side1 ?side2 ?side3 ?side4 A38.out).mono ?_); (case side1 => repeat (first | exact (Kd.R_reads' HO_5.out).2.2 | (with_reducible refine Kd.C_alloc ?_ _) | (with_reducible refine Kd.C_drewN ?_ _) | (with_reducible refine Kd.C_drew ?_))); (case side2 => exact (Kd.R_reads' HO_5.out).2.1); (case side3 => repeat (first | exact (Kd.R_reads' HO333.out).2.2 | (with_reducible refine Kd.C_alloc ?_ _) | (with_reducible refine Kd.C_drewN ?_ _) | (with_reducible refine Kd.C_drew ?_))); (case side4 => exact (Kd.R_reads' HO333.out).2.1); rintro e w' ⟨rfl, ⟨nd, rfl⟩⟩; refine ⟨_, rfl, ?_⟩) | (go_at_call 30; (with_reducible refine (redpencilref14_Runes.calls kj11 _ _ t331 t335 _ ?side1 ?side2 A40.out).mono ?_); (case side1 => repeat (first | exact (Kd.R_reads' HO333.out).2.2 | (with_reducible refine Kd.C_alloc ?_ _) | (with_reducible refine Kd.C_drewN ?_ _) | (with_reducible refine Kd.C_drew ?_))); (case side2 => exact (Kd.R_reads' HO333.out).2.1); rintro e w57 ⟨v336, rfl, ho0, hb⟩; have n0_ := Aside0.mk (Kd.R_below (by (with_reducible repeat (first | apply Kd.R_alloc | apply Kd.R_drewN | apply Kd.R_drew)); exact HO_5.out) hb); have n1_ := Aside0.mk (Kd.R_elder' (by (with_reducible repeat (first | apply Kd.R_alloc | apply Kd.R_drewN | apply Kd.R_drew)); exact HO_6.out) (Kd.R_base ho0) hb); have n2_ := Aside0.mk (Kd.R_below (by (with_reducible repeat (first | apply Kd.R_alloc | apply Kd.R_drewN | apply Kd.R_drew)); exact HO333.out) hb); have n3_ := Aside0.mk (Kd.R_lower (Kd.R_new' ho0 (Kd.R_lt (by (with_reducible repeat (first | apply Kd.R_alloc | apply Kd.R_drewN | apply Kd.R_drew)); exact HO_6.out))) (below_size (by repeat (first | (with_reducible first | exact HB.out | apply below_alloc | apply pw_below_drewN | apply below_drew1) | exact HB.out)))); have n4_ := Aside0.mk (below_step (by repeat (first | (with_reducible first | exact HB.out | apply below_alloc | apply pw_below_drewN | apply below_drew1) | exact HB.out)) hb); clear HO_5; clear HO_6; clear HO333; clear HB; have HO_5 := n0_; have HO_6 := n1_; have HO333 := n2_; have HO337 := n3_; have HB := n4_; clear n0_ n1_ n2_ n3_ n4_; (try clear hb); (try clear hb2); (try clear hk); (try clear hi); (try clear ho0); obtain ⟨Ao58, co58, eo58⟩ := Kd.R_slice HO_6.out; subst eo58; obtain ⟨Ao59, co59, eo59⟩ := Kd.R_slice HO337.out; subst eo59) | (go_at_call 29; (with_reducible refine (redpencilref15_Same.calls kj11 _ _ t320 _ _ t335 true _ ?side1 ?side2 ?side3 ?side4 A41.out).mono ?_); (case side1 => repeat (first | exact (Kd.R_reads' HO_6.out).2.2 | (with_reducible refine Kd.C_alloc ?_ _) | (with_reducible refine Kd.C_drewN ?_ _) | (with_reducible refine Kd.C_drew ?_))); (case side2 => exact (Kd.R_reads' HO_6.out).2.1); (case side3 => repeat (first | exact (Kd.R_reads' HO337.out).2.2 | (with_reducible refine Kd.C_alloc ?_ _) | (with_reducible refine Kd.C_drewN ?_ _) | (with_reducible refine Kd.C_drew ?_))); (case side4 => exact (Kd.R_reads' HO337.out).2.1); rintro e w' ⟨rfl, ⟨nd, rfl⟩⟩))
            go_ret
            exact ⟨by first | rfl | (simp [errW_none, errW_some] <;> rfl) | (simp [*, errW_none, errW_some] <;> rfl), by repeat (first | (with_reducible first | exact HB.out | apply below_alloc | apply pw_below_drewN | apply below_drew1) | exact HB.out)⟩
          ·
           replace c42 := Bool.eq_false_iff.mpr c42
           subst c42
           have H1 : (some false) = some r := by rw [if_neg (show ¬ (false = true) by decide)] at H; exact H
           clear H
           have H := H1
           clear H1
           obtain rfl := Option.some.inj H
           go_wp2_with (first | ((with_reducible refine gate_callee (f := 27) rfl ?_); refine goesL_ (some 57) rfl rfl Tryz.func27 (by kernel_rfl) rfl #[.slice A0 l0.length c0, .slice A1 l1.length c1] rfl (by (try simp only [List.map_toArray, List.map_cons, List.map_nil]); first | done | rfl | (simp only [List.length_drop, List.length_take]; rfl)) ?_; (with_reducible refine (redpencilref14_Agree.calls _ _ l0 _ _ l1 true _ ?side1 ?side2 ?side3 ?side4 A35.out).mono ?_); (case side1 => repeat (first | exact (Kd.C_below HR0.out HB.out) | (with_reducible refine Kd.C_alloc ?_ _) | (with_reducible refine Kd.C_drewN ?_ _) | (with_reducible refine Kd.C_drew ?_))); (case side2 => exact HC0.out); (case side3 => repeat (first | exact (Kd.C_below HR1.out HB.out) | (with_reducible refine Kd.C_alloc ?_ _) | (with_reducible refine Kd.C_drewN ?_ _) | (with_reducible refine Kd.C_drew ?_))); (case side4 => exact HC1.out); rintro e w60 ⟨rfl, hb⟩; refine ⟨_, rfl, ?_⟩; have n0_ := Aside0.mk (Kd.R_below (by (with_reducible repeat (first | apply Kd.R_alloc | apply Kd.R_drewN | apply Kd.R_drew)); exact HO_5.out) hb); have n1_ := Aside0.mk (Kd.R_below (by (with_reducible repeat (first | apply Kd.R_alloc | apply Kd.R_drewN | apply Kd.R_drew)); exact HO_6.out) hb); have n2_ := Aside0.mk (below_step (by repeat (first | (with_reducible first | exact HB.out | apply below_alloc | apply pw_below_drewN | apply below_drew1) | exact HB.out)) hb); clear HO_5; clear HO_6; clear HB; have HO_5 := n0_; have HO_6 := n1_; have HB := n2_; clear n0_ n1_ n2_; (try clear hb); (try clear hb2); (try clear hk); (try clear hi)) | ((with_reducible refine gate_callee (f := 28) rfl ?_); refine goesL_ (some 76) rfl rfl Tryz.func28 (by kernel_rfl) rfl #[.slice A0 l0.length c0, .slice A1 l1.length c1] rfl (by (try simp only [List.map_toArray, List.map_cons, List.map_nil]); first | done | rfl | (simp only [List.length_drop, List.length_take]; rfl)) ?_; (with_reducible refine (redpencilref14_Join.calls _ _ l0 _ _ l1 t331 _ ?side1 ?side2 ?side3 ?side4 A37.out).mono ?_); (case side1 => repeat (first | exact (Kd.C_below HR0.out HB.out) | (with_reducible refine Kd.C_alloc ?_ _) | (with_reducible refine Kd.C_drewN ?_ _) | (with_reducible refine Kd.C_drew ?_))); (case side2 => exact HC0.out); (case side3 => repeat (first | exact (Kd.C_below HR1.out HB.out) | (with_reducible refine Kd.C_alloc ?_ _) | (with_reducible refine Kd.C_drewN ?_ _) | (with_reducible refine Kd.C_drew ?_))); (case side4 => exact HC1.out); rintro e w61 ⟨v332, rfl, ho0, hb⟩; refine ⟨_, rfl, ?_⟩; have n0_ := Aside0.mk (Kd.R_elder' (by (with_reducible repeat (first | apply Kd.R_alloc | apply Kd.R_drewN | apply Kd.R_drew)); exact HO_5.out) (Kd.R_base ho0) hb); have n1_ := Aside0.mk (Kd.R_below (by (with_reducible repeat (first | apply Kd.R_alloc | apply Kd.R_drewN | apply Kd.R_drew)); exact HO_6.out) hb); have n2_ := Aside0.mk (Kd.R_lower (Kd.R_new' ho0 (Kd.R_lt (by (with_reducible repeat (first | apply Kd.R_alloc | apply Kd.R_drewN | apply Kd.R_drew)); exact HO_5.out))) (below_size (by repeat (first | (with_reducible first | exact HB.out | apply below_alloc | apply pw_below_drewN | apply below_drew1) | exact HB.out)))); have n3_ := Aside0.mk (below_step (by repeat (first | (with_reducible first | exact HB.out | apply below_alloc | apply pw_below_drewN | apply below_drew1) | exact HB.out)) hb); clear HO_5; clear HO_6; clear HB; have HO_5 := n0_; have HO_6 := n1_; have HO333 := n2_; have HB := n3_; clear n0_ n1_ n2_ n3_; (try clear hb); (try clear hb2); (try clear hk); (try clear hi); (try clear ho0); obtain ⟨Ao62, co62, eo62⟩ := Kd.R_slice HO_5.out; subst eo62; obtain ⟨Ao63, co63, eo63⟩ := Kd.R_slice HO333.out; subst eo63) | ((with_reducible refine gate_callee (f := 20) rfl ?_); refine goesL_ (some 79) rfl rfl Tryz.func20 (by kernel_rfl) rfl #[.slice Ao62 t319.length co62, .slice Ao63 t331.length co63] rfl (by (try simp only [List.map_toArray, List.map_cons, List.map_nil]); first | done | rfl | (simp only [List.length_drop, List.length_take]; rfl)) ?_; (with_reducible refine (redpencilref14_Same.calls kj11 _ _ t319 _ _ t331 true _ ?side1 ?side2 ?side3 ?side4 A38.out).mono ?_); (case side1 => repeat (first | exact (Kd.R_reads' HO_5.out).2.2 | (with_reducible refine Kd.C_alloc ?_ _) | (with_reducible refine Kd.C_drewN ?_ _) | (with_reducible refine Kd.C_drew ?_))); (case side2 => exact (Kd.R_reads' HO_5.out).2.1); (case side3 => repeat (first | exact (Kd.R_reads' HO333.out).2.2 | (with_reducible refine Kd.C_alloc ?_ _) | (with_reducible refine Kd.C_drewN ?_ _) | (with_reducible refine Kd.C_drew ?_))); (case side4 => exact (Kd.R_reads' HO333.out).2.1); rintro e w' ⟨rfl, ⟨nd, rfl⟩⟩; refine ⟨_, rfl, ?_⟩) | (go_at_call 30; (with_reducible refine (redpencilref14_Runes.calls kj11 _ _ t331 t335 _ ?side1 ?side2 A40.out).mono ?_); (case side1 => repeat (first | exact (Kd.R_reads' HO333.out).2.2 | (with_reducible refine Kd.C_alloc ?_ _) | (with_reducible refine Kd.C_drewN ?_ _) | (with_reducible refine Kd.C_drew ?_))); (case side2 => exact (Kd.R_reads' HO333.out).2.1); rintro e w64 ⟨v336, rfl, ho0, hb⟩; have n0_ := Aside0.mk (Kd.R_below (by (with_reducible repeat (first | apply Kd.R_alloc | apply Kd.R_drewN | apply Kd.R_drew)); exact HO_5.out) hb); have n1_ := Aside0.mk (Kd.R_elder' (by (with_reducible repeat (first | apply Kd.R_alloc | apply Kd.R_drewN | apply Kd.R_drew)); exact HO_6.out) (Kd.R_base ho0) hb); have n2_ := Aside0.mk (Kd.R_below (by (with_reducible repeat (first | apply Kd.R_alloc | apply Kd.R_drewN | apply Kd.R_drew)); exact HO333.out) hb); have n3_ := Aside0.mk (Kd.R_lower (Kd.R_new' ho0 (Kd.R_lt (by (with_reducible repeat (first | apply Kd.R_alloc | apply Kd.R_drewN | apply Kd.R_drew)); exact HO_6.out))) (below_size (by repeat (first | (with_reducible first | exact HB.out | apply below_alloc | apply pw_below_drewN | apply below_drew1) | exact HB.out)))); have n4_ := Aside0.mk (below_step (by repeat (first | (with_reducible first | exact HB.out | apply below_alloc | apply pw_below_drewN | apply below_drew1) | exact HB.out)) hb); clear HO_5; clear HO_6; clear HO333; clear HB; have HO_5 := n0_; have HO_6 := n1_; have HO333 := n2_; have HO337 := n3_; have HB := n4_; clear n0_ n1_ n2_ n3_ n4_; (try clear hb); (try clear hb2); (try clear hk); (try clear hi); (try clear ho0); obtain ⟨Ao65, co65, eo65⟩ := Kd.R_slice HO_6.out; subst eo65; obtain ⟨Ao66, co66, eo66⟩ := Kd.R_slice HO337.out; subst eo66) | (go_at_call 29; (with_reducible refine (redpencilref15_Same.calls kj11 _ _ t320 _ _ t335 false _ ?side1 ?side2 ?side3 ?side4 A41.out).mono ?_); (case side1 => repeat (first | exact (Kd.R_reads' HO_6.out).2.2 | (with_reducible refine Kd.C_alloc ?_ _) | (with_reducible refine Kd.C_drewN ?_ _) | (with_reducible refine Kd.C_drew ?_))); (case side2 => exact (Kd.R_reads' HO_6.out).2.1); (case side3 => repeat (first | exact (Kd.R_reads' HO337.out).2.2 | (with_reducible refine Kd.C_alloc ?_ _) | (with_reducible refine Kd.C_drewN ?_ _) | (with_reducible refine Kd.C_drew ?_))); (case side4 => exact (Kd.R_reads' HO337.out).2.1); rintro e w' ⟨rfl, ⟨nd, rfl⟩⟩))
           go_ret
           exact ⟨by first | rfl | (simp [errW_none, errW_some] <;> rfl) | (simp [*, errW_none, errW_some] <;> rfl), by repeat (first | (with_reducible first | exact HB.out | apply below_alloc | apply pw_below_drewN | apply below_drew1) | exact HB.out)⟩
         ·
          replace c39 := Bool.eq_false_iff.mpr c39
          subst c39
          have H1 : (some false) = some r := by rw [if_neg (show ¬ (false = true) by decide)] at H; exact H
          clear H
          have H := H1
          clear H1
          obtain rfl := Option.some.inj H
          go_wp2_with (first | ((with_reducible refine gate_callee (f := 27) rfl ?_); refine goesL_ (some 57) rfl rfl Tryz.func27 (by kernel_rfl) rfl #[.slice A0 l0.length c0, .slice A1 l1.length c1] rfl (by (try simp only [List.map_toArray, List.map_cons, List.map_nil]); first | done | rfl | (simp only [List.length_drop, List.length_take]; rfl)) ?_; (with_reducible refine (redpencilref14_Agree.calls _ _ l0 _ _ l1 true _ ?side1 ?side2 ?side3 ?side4 A35.out).mono ?_); (case side1 => repeat (first | exact (Kd.C_below HR0.out HB.out) | (with_reducible refine Kd.C_alloc ?_ _) | (with_reducible refine Kd.C_drewN ?_ _) | (with_reducible refine Kd.C_drew ?_))); (case side2 => exact HC0.out); (case side3 => repeat (first | exact (Kd.C_below HR1.out HB.out) | (with_reducible refine Kd.C_alloc ?_ _) | (with_reducible refine Kd.C_drewN ?_ _) | (with_reducible refine Kd.C_drew ?_))); (case side4 => exact HC1.out); rintro e w67 ⟨rfl, hb⟩; refine ⟨_, rfl, ?_⟩; have n0_ := Aside0.mk (Kd.R_below (by (with_reducible repeat (first | apply Kd.R_alloc | apply Kd.R_drewN | apply Kd.R_drew)); exact HO_5.out) hb); have n1_ := Aside0.mk (Kd.R_below (by (with_reducible repeat (first | apply Kd.R_alloc | apply Kd.R_drewN | apply Kd.R_drew)); exact HO_6.out) hb); have n2_ := Aside0.mk (below_step (by repeat (first | (with_reducible first | exact HB.out | apply below_alloc | apply pw_below_drewN | apply below_drew1) | exact HB.out)) hb); clear HO_5; clear HO_6; clear HB; have HO_5 := n0_; have HO_6 := n1_; have HB := n2_; clear n0_ n1_ n2_; (try clear hb); (try clear hb2); (try clear hk); (try clear hi)) | ((with_reducible refine gate_callee (f := 28) rfl ?_); refine goesL_ (some 76) rfl rfl Tryz.func28 (by kernel_rfl) rfl #[.slice A0 l0.length c0, .slice A1 l1.length c1] rfl (by (try simp only [List.map_toArray, List.map_cons, List.map_nil]); first | done | rfl | (simp only [List.length_drop, List.length_take]; rfl)) ?_; (with_reducible refine (redpencilref14_Join.calls _ _ l0 _ _ l1 t331 _ ?side1 ?side2 ?side3 ?side4 A37.out).mono ?_); (case side1 => repeat (first | exact (Kd.C_below HR0.out HB.out) | (with_reducible refine Kd.C_alloc ?_ _) | (with_reducible refine Kd.C_drewN ?_ _) | (with_reducible refine Kd.C_drew ?_))); (case side2 => exact HC0.out); (case side3 => repeat (first | exact (Kd.C_below HR1.out HB.out) | (with_reducible refine Kd.C_alloc ?_ _) | (with_reducible refine Kd.C_drewN ?_ _) | (with_reducible refine Kd.C_drew ?_))); (case side4 => exact HC1.out); rintro e w68 ⟨v332, rfl, ho0, hb⟩; refine ⟨_, rfl, ?_⟩; have n0_ := Aside0.mk (Kd.R_elder' (by (with_reducible repeat (first | apply Kd.R_alloc | apply Kd.R_drewN | apply Kd.R_drew)); exact HO_5.out) (Kd.R_base ho0) hb); have n1_ := Aside0.mk (Kd.R_below (by (with_reducible repeat (first | apply Kd.R_alloc | apply Kd.R_drewN | apply Kd.R_drew)); exact HO_6.out) hb); have n2_ := Aside0.mk (Kd.R_lower (Kd.R_new' ho0 (Kd.R_lt (by (with_reducible repeat (first | apply Kd.R_alloc | apply Kd.R_drewN | apply Kd.R_drew)); exact HO_5.out))) (below_size (by repeat (first | (with_reducible first | exact HB.out | apply below_alloc | apply pw_below_drewN | apply below_drew1) | exact HB.out)))); have n3_ := Aside0.mk (below_step (by repeat (first | (with_reducible first | exact HB.out | apply below_alloc | apply pw_below_drewN | apply below_drew1) | exact HB.out)) hb); clear HO_5; clear HO_6; clear HB; have HO_5 := n0_; have HO_6 := n1_; have HO333 := n2_; have HB := n3_; clear n0_ n1_ n2_ n3_; (try clear hb); (try clear hb2); (try clear hk); (try clear hi); (try clear ho0); obtain ⟨Ao69, co69, eo69⟩ := Kd.R_slice HO_5.out; subst eo69; obtain ⟨Ao70, co70, eo70⟩ := Kd.R_slice HO333.out; subst eo70) | ((with_reducible refine gate_callee (f := 20) rfl ?_); refine goesL_ (some 79) rfl rfl Tryz.func20 (by kernel_rfl) rfl #[.slice Ao69 t319.length co69, .slice Ao70 t331.length co70] rfl (by (try simp only [List.map_toArray, List.map_cons, List.map_nil]); first | done | rfl | (simp only [List.length_drop, List.length_take]; rfl)) ?_; (with_reducible refine (redpencilref14_Same.calls kj11 _ _ t319 _ _ t331 false _ ?side1 ?side2 ?side3 ?side4 A38.out).mono ?_); (case side1 => repeat (first | exact (Kd.R_reads' HO_5.out).2.2 | (with_reducible refine Kd.C_alloc ?_ _) | (with_reducible refine Kd.C_drewN ?_ _) | (with_reducible refine Kd.C_drew ?_))); (case side2 => exact (Kd.R_reads' HO_5.out).2.1); (case side3 => repeat (first | exact (Kd.R_reads' HO333.out).2.2 | (with_reducible refine Kd.C_alloc ?_ _) | (with_reducible refine Kd.C_drewN ?_ _) | (with_reducible refine Kd.C_drew ?_))); (case side4 => exact (Kd.R_reads' HO333.out).2.1); rintro e w' ⟨rfl, ⟨nd, rfl⟩⟩; refine ⟨_, rfl, ?_⟩))
          go_ret
          exact ⟨by first | rfl | (simp [errW_none, errW_some] <;> rfl) | (simp [*, errW_none, errW_some] <;> rfl), by repeat (first | (with_reducible first | exact HB.out | apply below_alloc | apply pw_below_drewN | apply below_drew1) | exact HB.out)⟩
        ·
         replace c36 := Bool.eq_false_iff.mpr c36
         subst c36
         have H1 : (if (t319.length : Int) = 0 then (if (t320.length : Int) = 0 then (if t321 = 15 then ((redpencillaw15_known.f).bind fun t330 => (some t330)) else (some false)) else (some false)) else (some false)) = some r := by rw [if_neg (show ¬ (false = true) by decide)] at H; exact H
         clear H
         have H := H1
         clear H1
         by_cases c71 : (t319.length : Int) = 0
         ·
          rw [if_pos c71] at H
          have c71b0 : ((t319.length : Int) == 0) = true := beq_iff_eq.mpr c71
          have c71b1 : ((t319.length : Int) != 0) = false := bne_eq_false_iff_eq.mpr c71
          clear c71
          by_cases c72 : (t320.length : Int) = 0
          ·
           rw [if_pos c72] at H
           have c72b0 : ((t320.length : Int) == 0) = true := beq_iff_eq.mpr c72
           have c72b1 : ((t320.length : Int) != 0) = false := bne_eq_false_iff_eq.mpr c72
           clear c72
           by_cases c73 : t321 = 15
           ·
            rw [if_pos c73] at H
            have c73b0 : (t321 == 15) = true := beq_iff_eq.mpr c73
            have c73b1 : (t321 != 15) = false := bne_eq_false_iff_eq.mpr c73
            clear c73
            replace H := Option.bind_eq_some_iff.mp H
            obtain ⟨t330, A740, H⟩ := H
            replace H : (some t330) = some r := H
            have A74 := Aside0.mk A740
            clear A740
            obtain rfl := Option.some.inj H
            go_wp2_with (first | ((with_reducible refine gate_callee (f := 27) rfl ?_); refine goesL_ (some 57) rfl rfl Tryz.func27 (by kernel_rfl) rfl #[.slice A0 l0.length c0, .slice A1 l1.length c1] rfl (by (try simp only [List.map_toArray, List.map_cons, List.map_nil]); first | done | rfl | (simp only [List.length_drop, List.length_take]; rfl)) ?_; (with_reducible refine (redpencilref14_Agree.calls _ _ l0 _ _ l1 false _ ?side1 ?side2 ?side3 ?side4 A35.out).mono ?_); (case side1 => repeat (first | exact (Kd.C_below HR0.out HB.out) | (with_reducible refine Kd.C_alloc ?_ _) | (with_reducible refine Kd.C_drewN ?_ _) | (with_reducible refine Kd.C_drew ?_))); (case side2 => exact HC0.out); (case side3 => repeat (first | exact (Kd.C_below HR1.out HB.out) | (with_reducible refine Kd.C_alloc ?_ _) | (with_reducible refine Kd.C_drewN ?_ _) | (with_reducible refine Kd.C_drew ?_))); (case side4 => exact HC1.out); rintro e w75 ⟨rfl, hb⟩; refine ⟨_, rfl, ?_⟩; have n0_ := Aside0.mk (Kd.R_below (by (with_reducible repeat (first | apply Kd.R_alloc | apply Kd.R_drewN | apply Kd.R_drew)); exact HO_5.out) hb); have n1_ := Aside0.mk (Kd.R_below (by (with_reducible repeat (first | apply Kd.R_alloc | apply Kd.R_drewN | apply Kd.R_drew)); exact HO_6.out) hb); have n2_ := Aside0.mk (below_step (by repeat (first | (with_reducible first | exact HB.out | apply below_alloc | apply pw_below_drewN | apply below_drew1) | exact HB.out)) hb); clear HO_5; clear HO_6; clear HB; have HO_5 := n0_; have HO_6 := n1_; have HB := n2_; clear n0_ n1_ n2_; (try clear hb); (try clear hb2); (try clear hk); (try clear hi); obtain ⟨Ao76, co76, eo76⟩ := Kd.R_slice HO_5.out; subst eo76; obtain ⟨Ao77, co77, eo77⟩ := Kd.R_slice HO_6.out; subst eo77) | (go_at_call 10; (with_reducible refine (redpencillaw15_known.calls  t330 _ A74.out).mono ?_); rintro e w78 ⟨rfl, hb⟩; have n0_ := Aside0.mk (Kd.R_below (by (with_reducible repeat (first | apply Kd.R_alloc | apply Kd.R_drewN | apply Kd.R_drew)); exact HO_5.out) hb); have n1_ := Aside0.mk (Kd.R_below (by (with_reducible repeat (first | apply Kd.R_alloc | apply Kd.R_drewN | apply Kd.R_drew)); exact HO_6.out) hb); have n2_ := Aside0.mk (below_step (by repeat (first | (with_reducible first | exact HB.out | apply below_alloc | apply pw_below_drewN | apply below_drew1) | exact HB.out)) hb); clear HO_5; clear HO_6; clear HB; have HO_5 := n0_; have HO_6 := n1_; have HB := n2_; clear n0_ n1_ n2_; (try clear hb); (try clear hb2); (try clear hk); (try clear hi)))
            go_ret
            exact ⟨by first | rfl | (simp [errW_none, errW_some] <;> rfl) | (simp [*, errW_none, errW_some] <;> rfl), by repeat (first | (with_reducible first | exact HB.out | apply below_alloc | apply pw_below_drewN | apply below_drew1) | exact HB.out)⟩
           ·
            rw [if_neg c73] at H
            have c73b0 : (t321 == 15) = false := beq_eq_false_iff_ne.mpr c73
            have c73b1 : (t321 != 15) = true := bne_iff_ne.mpr c73
            obtain rfl := Option.some.inj H
            go_wp2_with (first | ((with_reducible refine gate_callee (f := 27) rfl ?_); refine goesL_ (some 57) rfl rfl Tryz.func27 (by kernel_rfl) rfl #[.slice A0 l0.length c0, .slice A1 l1.length c1] rfl (by (try simp only [List.map_toArray, List.map_cons, List.map_nil]); first | done | rfl | (simp only [List.length_drop, List.length_take]; rfl)) ?_; (with_reducible refine (redpencilref14_Agree.calls _ _ l0 _ _ l1 false _ ?side1 ?side2 ?side3 ?side4 A35.out).mono ?_); (case side1 => repeat (first | exact (Kd.C_below HR0.out HB.out) | (with_reducible refine Kd.C_alloc ?_ _) | (with_reducible refine Kd.C_drewN ?_ _) | (with_reducible refine Kd.C_drew ?_))); (case side2 => exact HC0.out); (case side3 => repeat (first | exact (Kd.C_below HR1.out HB.out) | (with_reducible refine Kd.C_alloc ?_ _) | (with_reducible refine Kd.C_drewN ?_ _) | (with_reducible refine Kd.C_drew ?_))); (case side4 => exact HC1.out); rintro e w79 ⟨rfl, hb⟩; refine ⟨_, rfl, ?_⟩; have n0_ := Aside0.mk (Kd.R_below (by (with_reducible repeat (first | apply Kd.R_alloc | apply Kd.R_drewN | apply Kd.R_drew)); exact HO_5.out) hb); have n1_ := Aside0.mk (Kd.R_below (by (with_reducible repeat (first | apply Kd.R_alloc | apply Kd.R_drewN | apply Kd.R_drew)); exact HO_6.out) hb); have n2_ := Aside0.mk (below_step (by repeat (first | (with_reducible first | exact HB.out | apply below_alloc | apply pw_below_drewN | apply below_drew1) | exact HB.out)) hb); clear HO_5; clear HO_6; clear HB; have HO_5 := n0_; have HO_6 := n1_; have HB := n2_; clear n0_ n1_ n2_; (try clear hb); (try clear hb2); (try clear hk); (try clear hi); obtain ⟨Ao80, co80, eo80⟩ := Kd.R_slice HO_5.out; subst eo80; obtain ⟨Ao81, co81, eo81⟩ := Kd.R_slice HO_6.out; subst eo81))
            go_ret
            exact ⟨by first | rfl | (simp [errW_none, errW_some] <;> rfl) | (simp [*, errW_none, errW_some] <;> rfl), by repeat (first | (with_reducible first | exact HB.out | apply below_alloc | apply pw_below_drewN | apply below_drew1) | exact HB.out)⟩
          ·
           rw [if_neg c72] at H
           have c72b0 : ((t320.length : Int) == 0) = false := beq_eq_false_iff_ne.mpr c72
           have c72b1 : ((t320.length : Int) != 0) = true := bne_iff_ne.mpr c72
           have c72b2 : ¬ (t320 = []) := fun h_ => c72 (by rw [h_]; rfl)
           obtain rfl := Option.some.inj H
           go_wp2_with (first | ((with_reducible refine gate_callee (f := 27) rfl ?_); refine goesL_ (some 57) rfl rfl Tryz.func27 (by kernel_rfl) rfl #[.slice A0 l0.length c0, .slice A1 l1.length c1] rfl (by (try simp only [List.map_toArray, List.map_cons, List.map_nil]); first | done | rfl | (simp only [List.length_drop, List.length_take]; rfl)) ?_; (with_reducible refine (redpencilref14_Agree.calls _ _ l0 _ _ l1 false _ ?side1 ?side2 ?side3 ?side4 A35.out).mono ?_); (case side1 => repeat (first | exact (Kd.C_below HR0.out HB.out) | (with_reducible refine Kd.C_alloc ?_ _) | (with_reducible refine Kd.C_drewN ?_ _) | (with_reducible refine Kd.C_drew ?_))); (case side2 => exact HC0.out); (case side3 => repeat (first | exact (Kd.C_below HR1.out HB.out) | (with_reducible refine Kd.C_alloc ?_ _) | (with_reducible refine Kd.C_drewN ?_ _) | (with_reducible refine Kd.C_drew ?_))); (case side4 => exact HC1.out); rintro e w82 ⟨rfl, hb⟩; refine ⟨_, rfl, ?_⟩; have n0_ := Aside0.mk (Kd.R_below (by (with_reducible repeat (first | apply Kd.R_alloc | apply Kd.R_drewN | apply Kd.R_drew)); exact HO_5.out) hb); have n1_ := Aside0.mk (Kd.R_below (by (with_reducible repeat (first | apply Kd.R_alloc | apply Kd.R_drewN | apply Kd.R_drew)); exact HO_6.out) hb); have n2_ := Aside0.mk (below_step (by repeat (first | (with_reducible first | exact HB.out | apply below_alloc | apply pw_below_drewN | apply below_drew1) | exact HB.out)) hb); clear HO_5; clear HO_6; clear HB; have HO_5 := n0_; have HO_6 := n1_; have HB := n2_; clear n0_ n1_ n2_; (try clear hb); (try clear hb2); (try clear hk); (try clear hi); obtain ⟨Ao83, co83, eo83⟩ := Kd.R_slice HO_5.out; subst eo83; obtain ⟨Ao84, co84, eo84⟩ := Kd.R_slice HO_6.out; subst eo84))
           go_ret
           exact ⟨by first | rfl | (simp [errW_none, errW_some] <;> rfl) | (simp [*, errW_none, errW_some] <;> rfl), by repeat (first | (with_reducible first | exact HB.out | apply below_alloc | apply pw_below_drewN | apply below_drew1) | exact HB.out)⟩
         ·
          rw [if_neg c71] at H
          have c71b0 : ((t319.length : Int) == 0) = false := beq_eq_false_iff_ne.mpr c71
          have c71b1 : ((t319.length : Int) != 0) = true := bne_iff_ne.mpr c71
          have c71b2 : ¬ (t319 = []) := fun h_ => c71 (by rw [h_]; rfl)
          obtain rfl := Option.some.inj H
          go_wp2_with (first | ((with_reducible refine gate_callee (f := 27) rfl ?_); refine goesL_ (some 57) rfl rfl Tryz.func27 (by kernel_rfl) rfl #[.slice A0 l0.length c0, .slice A1 l1.length c1] rfl (by (try simp only [List.map_toArray, List.map_cons, List.map_nil]); first | done | rfl | (simp only [List.length_drop, List.length_take]; rfl)) ?_; (with_reducible refine (redpencilref14_Agree.calls _ _ l0 _ _ l1 false _ ?side1 ?side2 ?side3 ?side4 A35.out).mono ?_); (case side1 => repeat (first | exact (Kd.C_below HR0.out HB.out) | (with_reducible refine Kd.C_alloc ?_ _) | (with_reducible refine Kd.C_drewN ?_ _) | (with_reducible refine Kd.C_drew ?_))); (case side2 => exact HC0.out); (case side3 => repeat (first | exact (Kd.C_below HR1.out HB.out) | (with_reducible refine Kd.C_alloc ?_ _) | (with_reducible refine Kd.C_drewN ?_ _) | (with_reducible refine Kd.C_drew ?_))); (case side4 => exact HC1.out); rintro e w85 ⟨rfl, hb⟩; refine ⟨_, rfl, ?_⟩; have n0_ := Aside0.mk (Kd.R_below (by (with_reducible repeat (first | apply Kd.R_alloc | apply Kd.R_drewN | apply Kd.R_drew)); exact HO_5.out) hb); have n1_ := Aside0.mk (Kd.R_below (by (with_reducible repeat (first | apply Kd.R_alloc | apply Kd.R_drewN | apply Kd.R_drew)); exact HO_6.out) hb); have n2_ := Aside0.mk (below_step (by repeat (first | (with_reducible first | exact HB.out | apply below_alloc | apply pw_below_drewN | apply below_drew1) | exact HB.out)) hb); clear HO_5; clear HO_6; clear HB; have HO_5 := n0_; have HO_6 := n1_; have HB := n2_; clear n0_ n1_ n2_; (try clear hb); (try clear hb2); (try clear hk); (try clear hi); obtain ⟨Ao86, co86, eo86⟩ := Kd.R_slice HO_5.out; subst eo86))
          go_ret
          exact ⟨by first | rfl | (simp [errW_none, errW_some] <;> rfl) | (simp [*, errW_none, errW_some] <;> rfl), by repeat (first | (with_reducible first | exact HB.out | apply below_alloc | apply pw_below_drewN | apply below_drew1) | exact HB.out)⟩
    ·
     rw [if_neg c10] at H
     have c10b0 : (t317 == t318) = false := beq_eq_false_iff_ne.mpr c10
     have c10b1 : (t317 != t318) = true := bne_iff_ne.mpr c10
     obtain rfl := Option.some.inj H
     go_wp2_with (first | ((with_reducible refine gate_callee (f := 23) rfl ?_); refine goesL_ (some 19) rfl rfl Tryz.func23 (by kernel_rfl) rfl #[.slice A0 l0.length c0] rfl (by (try simp only [List.map_toArray, List.map_cons, List.map_nil]); first | done | rfl | (simp only [List.length_drop, List.length_take]; rfl)) ?_; (with_reducible refine (edit_Latest.calls kj2 _ _ l0 t317 _ ?side1 ?side2 A8.out).mono ?_); (case side1 => repeat (first | exact (Kd.C_below HR0.out HB.out) | (with_reducible refine Kd.C_alloc ?_ _) | (with_reducible refine Kd.C_drewN ?_ _) | (with_reducible refine Kd.C_drew ?_))); (case side2 => exact HC0.out); rintro e w87 ⟨rfl, hb⟩; refine ⟨_, rfl, ?_⟩; have n0_ := Aside0.mk (below_step (by repeat (first | (with_reducible first | exact HB.out | apply below_alloc | apply pw_below_drewN | apply below_drew1) | exact HB.out)) hb); clear HB; have HB := n0_; clear n0_; (try clear hb); (try clear hb2); (try clear hk); (try clear hi)) | ((with_reducible refine gate_callee (f := 24) rfl ?_); refine goesL_ (some 21) rfl rfl Tryz.func24 (by kernel_rfl) rfl #[.slice A0 l0.length c0] rfl (by (try simp only [List.map_toArray, List.map_cons, List.map_nil]); first | done | rfl | (simp only [List.length_drop, List.length_take]; rfl)) ?_; (with_reducible refine (redpencilref15_Latest.calls kj2 _ _ l0 t318 _ ?side1 ?side2 A9.out).mono ?_); (case side1 => repeat (first | exact (Kd.C_below HR0.out HB.out) | (with_reducible refine Kd.C_alloc ?_ _) | (with_reducible refine Kd.C_drewN ?_ _) | (with_reducible refine Kd.C_drew ?_))); (case side2 => exact HC0.out); rintro e w88 ⟨rfl, hb⟩; refine ⟨_, rfl, ?_⟩; have n0_ := Aside0.mk (below_step (by repeat (first | (with_reducible first | exact HB.out | apply below_alloc | apply pw_below_drewN | apply below_drew1) | exact HB.out)) hb); clear HB; have HB := n0_; clear n0_; (try clear hb); (try clear hb2); (try clear hk); (try clear hi)))
     go_ret
     exact ⟨by first | rfl | (simp [errW_none, errW_some] <;> rfl) | (simp [*, errW_none, errW_some] <;> rfl), by repeat (first | (with_reducible first | exact HB.out | apply below_alloc | apply pw_below_drewN | apply below_drew1) | exact HB.out)⟩
end Go.Proofs.YtmbndijbpgobeaaGreat.PWalk
end
section
namespace Go.Proofs.YtmbndijbpgobeaaGreat.PWalk
open Go.RowKit Go.Proofs.YtmbndijbpgobeaaGreatW.PrintWords Go.Proofs.YtmbndijbpgobeaaGreatW.PrintLast Go.Proofs.YtmbndijbpgobeaaGreatW.PrintMore
set_option linter.unusedVariables false
set_option linter.unusedSimpArgs false
open Go.Shelf
attribute [local go_sem] Oper.semAt_some
theorem jis_self (x : Node) : dotIs x.f0 x = true := by unfold dotIs; simp
theorem jis_no {x y : Node} (h : y.f0 ≠ x.f0) : dotIs x.f0 y = false := by
 unfold dotIs
 rw [Bool.eq_false_iff]
 intro e
 apply h
 simp only [Bool.and_eq_true, beq_iff_eq] at e
 cases hx : y.f0; cases hy : x.f0
 rw [hx, hy] at e
 simp only at e
 rw [e.1, e.2]
theorem incB_mk : ∀ {l : List Node}, Inc l → incB (l.map (·.f0)) = true
 | [], _ => rfl
 | [_], _ => rfl
 | a :: b :: l, h => by
  simp only [List.map_cons]
  rw [incB, Bool.and_eq_true]
  exact ⟨(List.pairwise_cons.1 h).1 b (List.mem_cons_self ..), incB_mk (List.pairwise_cons.1 h).2⟩
theorem dne {x z : Node} (h : dotLt x.f0 z.f0 = true) : x.f0 ≠ z.f0 := fun e => by rw [e, dotLt_irrefl] at h; cases h
theorem stepJ_cons {x z : Node} {o : List Node} (h : dotLt x.f0 z.f0 = true) : stepJ (x :: o) z = x :: stepJ o z := by
 have e : dotIs z.f0 x = false := jis_no (dne h)
 unfold stepJ
 rw [List.findIdx?_cons, e]
 cases o.findIdx? (dotIs z.f0) with
 | none => simp [insP, h]
 | some k => simp
theorem joinJ_cons {x : Node} : ∀ {m o : List Node}, (∀ z ∈ m, dotLt x.f0 z.f0 = true) → joinJ (x :: o) m = x :: joinJ o m
 | [], _, _ => rfl
 | z :: m, o, h => by
  show joinJ (stepJ (x :: o) z) m = x :: joinJ (stepJ o z) m
  rw [stepJ_cons (h z (List.mem_cons_self ..)), joinJ_cons fun y hy => h y (List.mem_cons_of_mem _ hy)]
theorem findIdx_none {d : Dot} {l : List Node} (h : ∀ z ∈ l, z.f0 ≠ d) : l.findIdx? (dotIs d) = none := by
 rw [List.findIdx?_eq_none_iff]
 intro z hz
 exact jis_no (x := ⟨d, d, 0, 0⟩) (h z hz)
theorem stepJ_front {y : Node} {l : List Node} (h : ∀ z ∈ l, dotLt y.f0 z.f0 = true) : stepJ l y = y :: l := by
 unfold stepJ
 rw [findIdx_none fun z hz e => (dne (h z hz)) e.symm]
 cases l with
 | nil => rfl
 | cons a l => simp [insP, dotLt_asymm (h a (List.mem_cons_self ..))]
theorem agreeL_front {y : Node} {l m : List Node} (h : ∀ z ∈ l, dotLt y.f0 z.f0 = true) : agreeL l (y :: m) = agreeL l m := by
 unfold agreeL
 rw [Bool.eq_iff_iff, List.all_eq_true, List.all_eq_true]
 refine forall_congr' fun x => forall_congr' fun hx => ?_
 rw [List.findIdx?_cons, jis_no (x := x) (dne (h x hx))]
 cases m.findIdx? (dotIs x.f0) <;> simp
theorem agreeL_none {x : Node} {l m : List Node} (h : ∀ z ∈ m, dotLt x.f0 z.f0 = true) : agreeL (x :: l) m = agreeL l m := by
 unfold agreeL
 rw [List.all_cons, findIdx_none fun z hz e => (dne (h z hz)) e.symm]
 simp
theorem mergeN_is {x y : Node} (e : x.f0 = y.f0) : mergeN x y = if agreeJ x y = true then some (mergeJ x y) else none := by
 unfold mergeJ
 by_cases h : agreeJ x y = true
 ·
  rw [if_pos h, if_pos h]
  unfold agreeJ at h
  obtain ⟨_, h1, h2, h3⟩ := of_decide_eq_true h
  unfold mergeN
  rw [if_pos ⟨h1, h2, by omega⟩]
 ·
  rw [if_neg h]
  unfold mergeN
  rw [if_neg fun ⟨h1, h2, h3⟩ => h (decide_eq_true ⟨e, h1, h2, by omega⟩)]
theorem mergeJ_dot {x y : Node} (h : agreeJ x y = true) : (mergeJ x y).f0 = x.f0 ∧ (mergeJ x y = x ∨ mergeJ x y = y) := by
 unfold mergeJ
 rw [if_pos h]
 have e := (of_decide_eq_true h).1
 by_cases k : y.f3 = 0
 ·
  rw [if_pos k]; exact ⟨e.symm, .inr rfl⟩
 ·
  rw [if_neg k]; exact ⟨rfl, .inl rfl⟩
theorem joinOf_is : ∀ (q : Nat) {l m : List Node}, l.length + m.length ≤ q → Inc l → Inc m → joinOf l m = if agreeL l m = true then some (joinJ l m) else none := by
 intro q
 induction q with
 | zero =>
  intro l m h _ _
  obtain rfl : l = [] := List.eq_nil_of_length_eq_zero (by omega)
  obtain rfl : m = [] := List.eq_nil_of_length_eq_zero (by omega)
  rfl
 | succ q ih =>
  intro l m h hl hm
  cases m with
  | nil =>
   have e : agreeL l [] = true := by unfold agreeL; simp
   rw [joinOf_nil2, if_pos e]
   rfl
  | cons y m =>
   cases l with
   | nil =>
    rw [joinOf_nil, if_pos (show agreeL [] (y :: m) = true from rfl)]
    have : ∀ {m : List Node}, Inc m → joinJ [] m = m := by
     intro m
     induction m with
     | nil => intro _; rfl
     | cons z m ih =>
      intro hz
      show joinJ (stepJ [] z) m = z :: m
      rw [show stepJ [] z = [z] from rfl, joinJ_cons fun u hu => (List.pairwise_cons.1 hz).1 u hu, ih (List.pairwise_cons.1 hz).2]
    rw [this hm]
   | cons x l =>
    simp only [List.length_cons] at h
    obtain ⟨hx, hl'⟩ := List.pairwise_cons.1 hl
    obtain ⟨hy, hm'⟩ := List.pairwise_cons.1 hm
    rw [joinOf_cons]
    by_cases h1 : dotLt x.f0 y.f0 = true
    ·
     have hall : ∀ z ∈ y :: m, dotLt x.f0 z.f0 = true := fun z hz => by
      rcases List.mem_cons.1 hz with rfl | hz
      ·
       exact h1
      ·
       exact dotLt_trans h1 (hy z hz)
     rw [if_pos h1, ih (by simp only [List.length_cons]; omega) hl' hm, agreeL_none hall, joinJ_cons hall]
     by_cases g : agreeL l (y :: m) = true
     ·
      rw [if_pos g, if_pos g]; rfl
     ·
      rw [if_neg g, if_neg g]; rfl
    ·
     rw [if_neg h1]
     by_cases h2 : dotLt y.f0 x.f0 = true
     ·
      have hall : ∀ z ∈ x :: l, dotLt y.f0 z.f0 = true := fun z hz => by
       rcases List.mem_cons.1 hz with rfl | hz
       ·
        exact h2
       ·
        exact dotLt_trans h2 (hx z hz)
      rw [if_pos h2, ih (by simp only [List.length_cons]; omega) hl hm', agreeL_front hall]
      have e : joinJ (x :: l) (y :: m) = y :: joinJ (x :: l) m := by
       show joinJ (stepJ (x :: l) y) m = _
       rw [stepJ_front hall, joinJ_cons hy]
      rw [e]
      by_cases g : agreeL (x :: l) m = true
      ·
       rw [if_pos g, if_pos g]; rfl
      ·
       rw [if_neg g, if_neg g]; rfl
     ·
      rw [if_neg h2]
      have e : x.f0 = y.f0 := dotLt_total (Bool.eq_false_iff.2 h1) (Bool.eq_false_iff.2 h2)
      have hf : (y :: m).findIdx? (dotIs x.f0) = some 0 := by
       rw [List.findIdx?_cons, show dotIs x.f0 y = true by rw [e]; exact jis_self y]; rfl
      have hf2 : (x :: l).findIdx? (dotIs y.f0) = some 0 := by
       rw [List.findIdx?_cons, show dotIs y.f0 x = true by rw [← e]; exact jis_self x]; rfl
      have hag : agreeL (x :: l) (y :: m) = (agreeJ x y && agreeL l m) := by
       rw [← agreeL_front (y := y) (l := l) (m := m) (fun z hz => by rw [← e]; exact hx z hz)]
       unfold agreeL
       rw [List.all_cons, hf]
       rfl
      have hj : joinJ (x :: l) (y :: m) = joinJ (mergeJ x y :: l) m := by
       show joinJ (stepJ (x :: l) y) m = _
       unfold stepJ
       rw [hf2]
       rfl
      rw [hag, hj, mergeN_is e]
      cases ha : agreeJ x y with
      | false => rfl
      | true =>
       rw [joinJ_cons (fun z hz => by rw [(mergeJ_dot ha).1, e]; exact hy z hz), ih (by omega) hl' hm']
       simp only [if_true, Bool.true_and, Option.bind_some]
       by_cases g : agreeL l m = true
       ·
        rw [if_pos g, if_pos g]; rfl
       ·
        rw [if_neg g, if_neg g]; rfl
theorem joinOf_mem : ∀ (q : Nat) {l m r : List Node}, l.length + m.length ≤ q → joinOf l m = some r → Inc l → Inc m → Inc r ∧ (∀ z ∈ r, z ∈ l ∨ z ∈ m) ∧ r.length ≤ l.length + m.length := by
 intro q
 induction q with
 | zero =>
  intro l m r h e _ _
  obtain rfl : l = [] := List.eq_nil_of_length_eq_zero (by omega)
  obtain rfl : m = [] := List.eq_nil_of_length_eq_zero (by omega)
  cases e
  exact ⟨List.Pairwise.nil, fun z hz => .inl hz, Nat.le_refl _⟩
 | succ q ih =>
  intro l m r h e hl hm
  cases m with
  | nil => rw [joinOf_nil2] at e; cases e; exact ⟨hl, fun z hz => .inl hz, by simp⟩
  | cons y m =>
   cases l with
   | nil => rw [joinOf_nil] at e; cases e; exact ⟨hm, fun z hz => .inr hz, by simp⟩
   | cons x l =>
    simp only [List.length_cons] at h
    obtain ⟨hx, hl'⟩ := List.pairwise_cons.1 hl
    obtain ⟨hy, hm'⟩ := List.pairwise_cons.1 hm
    rw [joinOf_cons] at e
    by_cases h1 : dotLt x.f0 y.f0 = true
    ·
     rw [if_pos h1] at e
     obtain ⟨r', e', rfl⟩ := Option.map_eq_some_iff.1 e
     obtain ⟨g1, g2, g3⟩ := ih (by simp only [List.length_cons]; omega) e' hl' hm
     refine ⟨List.pairwise_cons.2 ⟨fun z hz => ?_, g1⟩, fun z hz => ?_, by simp only [List.length_cons] at g3 ⊢; omega⟩
     ·
      rcases g2 z hz with hz | hz
      ·
       exact hx z hz
      ·
       rcases List.mem_cons.1 hz with rfl | hz
       ·
        exact h1
       ·
        exact dotLt_trans h1 (hy z hz)
     ·
      rcases List.mem_cons.1 hz with rfl | hz
      ·
       exact .inl (List.mem_cons_self ..)
      ·
       exact (g2 z hz).imp (List.mem_cons_of_mem _) id
    ·
     rw [if_neg h1] at e
     by_cases h2 : dotLt y.f0 x.f0 = true
     ·
      rw [if_pos h2] at e
      obtain ⟨r', e', rfl⟩ := Option.map_eq_some_iff.1 e
      obtain ⟨g1, g2, g3⟩ := ih (by simp only [List.length_cons]; omega) e' hl hm'
      refine ⟨List.pairwise_cons.2 ⟨fun z hz => ?_, g1⟩, fun z hz => ?_, by simp only [List.length_cons] at g3 ⊢; omega⟩
      ·
       rcases g2 z hz with hz | hz
       ·
        rcases List.mem_cons.1 hz with rfl | hz
        ·
         exact h2
        ·
         exact dotLt_trans h2 (hx z hz)
       ·
        exact hy z hz
      ·
       rcases List.mem_cons.1 hz with rfl | hz
       ·
        exact .inr (List.mem_cons_self ..)
       ·
        exact (g2 z hz).imp id (List.mem_cons_of_mem _)
     ·
      rw [if_neg h2] at e
      have ee : x.f0 = y.f0 := dotLt_total (Bool.eq_false_iff.2 h1) (Bool.eq_false_iff.2 h2)
      obtain ⟨u, hu, e⟩ := Option.bind_eq_some_iff.1 e
      obtain ⟨r', e', rfl⟩ := Option.map_eq_some_iff.1 e
      obtain ⟨g1, g2, g3⟩ := ih (by omega) e' hl' hm'
      have hu2 : u.f0 = x.f0 ∧ (u = x ∨ u = y) := by
       rw [mergeN_is ee] at hu
       by_cases ha : agreeJ x y = true
       ·
        rw [if_pos ha] at hu; cases hu; exact mergeJ_dot ha
       ·
        rw [if_neg ha] at hu; cases hu
      refine ⟨List.pairwise_cons.2 ⟨fun z hz => ?_, g1⟩, fun z hz => ?_, by simp only [List.length_cons]; omega⟩
      ·
       rw [hu2.1]
       rcases g2 z hz with hz | hz
       ·
        exact hx z hz
       ·
        rw [ee]; exact hy z hz
      ·
       rcases List.mem_cons.1 hz with rfl | hz
       ·
        rcases hu2.2 with rfl | rfl
        ·
         exact .inl (List.mem_cons_self ..)
        ·
         exact .inr (List.mem_cons_self ..)
       ·
        exact (g2 z hz).imp (List.mem_cons_of_mem _) (List.mem_cons_of_mem _)
theorem store_inc {l : List Node} (h : storeOk l = true) : Inc l := by
 unfold storeOk at h
 rw [Bool.and_eq_true] at h
 exact inc_of h.2
/-- The join of two stores that agree is a store. -/
theorem join_store {l m : List Node} (hl : storeOk l = true) (hm : storeOk m = true) (ha : agreeL l m = true) : joinOf l m = some (joinJ l m) ∧ storeOk (joinJ l m) = true ∧ (joinJ l m).length ≤ l.length + m.length := by
 have e : joinOf l m = some (joinJ l m) := by rw [joinOf_is _ (Nat.le_refl _) (store_inc hl) (store_inc hm), if_pos ha]
 obtain ⟨g1, g2, g3⟩ := joinOf_mem _ (Nat.le_refl _) e (store_inc hl) (store_inc hm)
 refine ⟨e, ?_, g3⟩
 unfold storeOk at hl hm ⊢
 rw [Bool.and_eq_true, List.all_eq_true] at hl hm ⊢
 exact ⟨fun z hz => (g2 z hz).elim (hl.1 z) (hm.1 z), incB_mk g1⟩
theorem join_clash {l m : List Node} (hl : storeOk l = true) (hm : storeOk m = true) (ha : agreeL l m = false) : joinOf l m = none := by
 rw [joinOf_is _ (Nat.le_refl _) (store_inc hl) (store_inc hm), if_neg (by rw [ha]; decide)]
end Go.Proofs.YtmbndijbpgobeaaGreat.PWalk
end
section
namespace Go.Proofs.YtmbndijbpgobeaaGreat.PWalk
open Go.RowKit Go.Proofs.YtmbndijbpgobeaaGreatW.PrintWords Go.Proofs.YtmbndijbpgobeaaGreatW.PrintLast Go.Proofs.YtmbndijbpgobeaaGreatW.PrintMore
set_option linter.unusedVariables false
set_option linter.unusedSimpArgs false
open Go.Shelf
attribute [local go_sem] Oper.semAt_some
theorem jlast_from (l : List Node) (hl : l.length ≤ 400000) (hs : storeOk l = true) : ∀ (q k i : Nat) (t : Int), i + q = l.length → q < k → redpencilref15_Latest.l0 k l t (i : Int) = some ((l.drop i).foldl (fun t x => mx t x.f2) t) := by
 intro q
 induction q with
 | zero =>
  intro k i t hi hk
  obtain ⟨k, rfl⟩ : ∃ m, k = m + 1 := ⟨k - 1, by omega⟩
  simp only [redpencilref15_Latest.l0]
  rw [if_neg (by omega), List.drop_of_length_le (by omega)]
  rfl
 | succ q ih =>
  intro k i t hi hk
  obtain ⟨k, rfl⟩ : ∃ m, k = m + 1 := ⟨k - 1, by omega⟩
  have hlt : i < l.length := by omega
  simp only [redpencilref15_Latest.l0, redpencilref14_Store.f]
  rw [if_pos (by omega), if_pos hl, Option.bind_some, if_pos hs, if_pos (by omega), rdN hlt, wrap_succ hlt (by omega), List.drop_eq_getElem_cons hlt, List.foldl_cons]
  exact ih k (i + 1) _ (by omega) (by omega)
theorem jlatest_is {l : List Node} (hl : l.length ≤ 400000) {k : Nat} (hk : l.length < k) : redpencilref15_Latest.f k l = some (if storeOk l = true then lastOf l else 0) := by
 unfold redpencilref15_Latest.f
 by_cases h : storeOk l = true
 ·
  rw [if_pos h]
  exact jlast_from l hl h l.length k 0 0 (by omega) hk
 ·
  rw [if_neg h]
  obtain ⟨k, rfl⟩ : ∃ m, k = m + 1 := ⟨k - 1, by omega⟩
  simp only [redpencilref15_Latest.l0, redpencilref14_Store.f]
  by_cases h0 : (0 : Int) < (l.length : Int)
  ·
   rw [if_pos h0, if_pos hl, Option.bind_some, if_neg h]
  ·
   rw [if_neg h0]
theorem jsame_from (l : List Node) (hl : l.length ≤ 1000000) : ∀ (q k i : Nat), i + q = l.length → q < k → redpencilref14_Same.l0 k l l (i : Int) = some true := by
 intro q
 induction q with
 | zero =>
  intro k i hi hk
  obtain ⟨k, rfl⟩ : ∃ m, k = m + 1 := ⟨k - 1, by omega⟩
  simp only [redpencilref14_Same.l0]
  rw [if_neg (by omega)]
 | succ q ih =>
  intro k i hi hk
  obtain ⟨k, rfl⟩ : ∃ m, k = m + 1 := ⟨k - 1, by omega⟩
  have hlt : i < l.length := by omega
  simp only [redpencilref14_Same.l0]
  rw [if_pos (by omega), if_pos (by omega), if_pos (by omega), if_neg (by simp), wrap_succ hlt hl]
  exact ih k (i + 1) (by omega) (by omega)
theorem jsame_is (l : List Node) (hl : l.length ≤ 1000000) {k : Nat} (hk : l.length < k) : redpencilref14_Same.f k l l = some true := by
 unfold redpencilref14_Same.f
 rw [if_pos rfl]
 exact jsame_from l hl l.length k 0 (by omega) hk
theorem jsameI_from (l : List Int) (hl : l.length ≤ 1000000) : ∀ (q k i : Nat), i + q = l.length → q < k → redpencilref15_Same.l0 k l l (i : Int) = some true := by
 intro q
 induction q with
 | zero =>
  intro k i hi hk
  obtain ⟨k, rfl⟩ : ∃ m, k = m + 1 := ⟨k - 1, by omega⟩
  simp only [redpencilref15_Same.l0]
  rw [if_neg (by omega)]
 | succ q ih =>
  intro k i hi hk
  obtain ⟨k, rfl⟩ : ∃ m, k = m + 1 := ⟨k - 1, by omega⟩
  have hlt : i < l.length := by omega
  simp only [redpencilref15_Same.l0]
  rw [if_pos (by omega), if_pos (by omega), if_pos (by omega), if_pos trivial, wrap_succ hlt hl]
  exact ih k (i + 1) (by omega) (by omega)
theorem jsameI_is (l : List Int) (hl : l.length ≤ 1000000) {k : Nat} (hk : l.length < k) : redpencilref15_Same.f k l l = some true := by
 unfold redpencilref15_Same.f
 rw [if_pos rfl]
 exact jsameI_from l hl l.length k 0 (by omega) hk
theorem jvis_from (l : List Node) (hl : l.length ≤ 1000000) : ∀ (q k i : Nat), i + q = l.length → q < k → redpencilref14_Visible.l0 k (aliveOf (l.take i)) l (i : Int) = some (aliveOf l) := by
 intro q
 induction q with
 | zero =>
  intro k i hi hk
  obtain ⟨k, rfl⟩ : ∃ m, k = m + 1 := ⟨k - 1, by omega⟩
  simp only [redpencilref14_Visible.l0]
  rw [if_neg (by omega), show i = l.length by omega, List.take_length]
 | succ q ih =>
  intro k i hi hk
  obtain ⟨k, rfl⟩ : ∃ m, k = m + 1 := ⟨k - 1, by omega⟩
  have hlt : i < l.length := by omega
  simp only [redpencilref14_Visible.l0]
  rw [if_pos (by omega), if_pos (by omega), rdN hlt, wrap_succ hlt hl]
  have hs : aliveOf (l.take (i + 1)) = aliveOf (l.take i) ++ aliveOf [l[i]] := by
   unfold aliveOf
   rw [List.take_succ_eq_append_getElem hlt, List.filter_append]
  have := ih k (i + 1) (by omega) (by omega)
  rw [hs] at this
  by_cases h : l[i].f3 = 0
  ·
   rw [if_pos h]
   rw [show aliveOf [l[i]] = [] by unfold aliveOf; simp [h], List.append_nil] at this
   exact this
  ·
   rw [if_neg h, if_pos (by have := aliveOf_le (l.take i); rw [List.length_take] at this; omega)]
   rw [show aliveOf [l[i]] = [l[i]] by unfold aliveOf; simp [h]] at this
   exact this
theorem jvis_is {l : List Node} (hl : l.length ≤ 400000) (hs : storeOk l = true) {k : Nat} (hk : l.length < k) : redpencilref14_Visible.f k l = some (visOf l) := by
 have := ord_len hs
 unfold redpencilref14_Visible.f redpencilref14_Order.f
 rw [if_pos ⟨hl, hs⟩, Option.bind_some]
 exact jvis_from _ (by omega) _ k 0 (Nat.zero_add _) (by omega)
theorem jrunes_from (v : List Node) (hl : v.length ≤ 1000000) : ∀ (q k i : Nat), i + q = v.length → q < k → redpencilref14_Runes.l0 k ((v.take i).map (·.f3)) v (i : Int) = some (v.map (·.f3)) := by
 intro q
 induction q with
 | zero =>
  intro k i hi hk
  obtain ⟨k, rfl⟩ : ∃ m, k = m + 1 := ⟨k - 1, by omega⟩
  simp only [redpencilref14_Runes.l0]
  rw [if_neg (by omega), show i = v.length by omega, List.take_length]
 | succ q ih =>
  intro k i hi hk
  obtain ⟨k, rfl⟩ : ∃ m, k = m + 1 := ⟨k - 1, by omega⟩
  have hlt : i < v.length := by omega
  simp only [redpencilref14_Runes.l0]
  rw [if_pos (by omega), if_pos (by omega), rdN hlt, wrap_succ hlt hl, if_pos (by rw [List.length_map, List.length_take]; omega)]
  have hs : (v.take i).map (·.f3) ++ [v[i].f3] = (v.take (i + 1)).map (·.f3) := by rw [List.take_succ_eq_append_getElem hlt, List.map_append]; rfl
  rw [hs]
  exact ih k (i + 1) (by omega) (by omega)
theorem jrunes_is {l : List Node} (hl : l.length ≤ 400000) (hs : storeOk l = true) {k : Nat} (hk : l.length < k) : redpencilref14_Runes.f k l = some (runesOf l) := by
 have := vis_len hs
 unfold redpencilref14_Runes.f
 rw [jvis_is hl hs hk, Option.bind_some]
 exact jrunes_from _ (by omega) _ k 0 (Nat.zero_add _) (by omega)
end Go.Proofs.YtmbndijbpgobeaaGreat.PWalk
end
section
namespace Go.Proofs.YtmbndijbpgobeaaGreat.PWalk
open Go.RowKit Go.Proofs.YtmbndijbpgobeaaGreatW.PrintWords Go.Proofs.YtmbndijbpgobeaaGreatW.PrintLast Go.Proofs.YtmbndijbpgobeaaGreatW.PrintMore
set_option linter.unusedVariables false
set_option linter.unusedSimpArgs false
open Go.Shelf
attribute [local go_sem] Oper.semAt_some
theorem eidx_runes {l : List Node} (hl : l.length ≤ 400000) (hs : storeOk l = true) {k : Nat} (hk : l.length < k) : index_Runes.f k l = some (runesOf l, 0) := by
 have hv := vis_len hs
 unfold index_Runes.f
 rw [vis_is (by omega), if_pos hs]
 simp only [Option.bind_some]
 exact runes_from (visOf l) (by omega) 0 (visOf l).length k 0 (by omega) (by omega)
/-- What an edit's delta gives: the state and its runes, or the error. -/
def applyR (l m : List Node) : List Node × List Int × Int := if storeOk l = true ∧ storeOk m = true then (if agreeL l m = true then (joinJ l m, runesOf (joinJ l m), 0) else ([], [], 15)) else ([], [], 2)
theorem apply_is {l m : List Node} (hl : l.length ≤ 100000) (hm : m.length ≤ 100000) {k : Nat} (hk : l.length + m.length < k) : edit_Apply.f k l m = some (applyR l m) := by
 unfold edit_Apply.f join_Join.f joinR applyR
 rw [if_pos (by omega), Option.bind_some]
 by_cases h : storeOk l = true ∧ storeOk m = true
 ·
  rw [if_pos h, if_pos h]
  cases ha : agreeL l m with
  | true =>
   obtain ⟨e1, e2, e3⟩ := join_store h.1 h.2 ha
   simp only [e1, if_true]
   rw [eidx_runes (by omega) e2 (by omega)]
   rfl
  | false => rw [join_clash h.1 h.2 ha]; rfl
 ·
  rw [if_neg h, if_neg h]; rfl
theorem applies_is (l m : List Node) : redpencillaw15_EditApplies.f 1000 l m = some true := by
 unfold redpencillaw15_EditApplies.f
 by_cases hl : l.length > 40
 ·
  rw [if_pos (by omega)]; rfl
 ·
  rw [if_neg (by omega)]
  by_cases hm : m.length > 40
  ·
   rw [decide_eq_true (by omega)]; rfl
  ·
   rw [decide_eq_false (by omega)]
   simp only [redpencillaw15_EditApplies.j0]
   rw [if_neg (by decide), latest_is (by omega) (by omega), Option.bind_some, jlatest_is (by omega) (by omega), Option.bind_some, if_pos rfl, apply_is (by omega) (by omega) (by omega), Option.bind_some]
   unfold redpencilref14_Store.f applyR
   rw [if_pos (show l.length ≤ 400000 by omega), Option.bind_some]
   cases hs : storeOk l with
   | false =>
    rw [if_neg (by decide), if_neg (fun h => by cases h.1)]
    simp only [redpencillaw15_EditApplies.j1]
    rfl
   | true =>
    rw [if_pos rfl, if_pos (show m.length ≤ 400000 by omega), Option.bind_some]
    cases ht : storeOk m with
    | false =>
     rw [if_neg (fun h => by cases h.2)]
     simp only [redpencillaw15_EditApplies.j1]
     rfl
    | true =>
     rw [if_pos ⟨rfl, rfl⟩]
     simp only [redpencillaw15_EditApplies.j1, redpencilref14_Agree.f]
     rw [if_neg (by decide), if_pos ⟨by omega, by omega⟩, Option.bind_some]
     cases ha : agreeL l m with
     | false =>
      rw [if_neg (by decide)]
      rfl
     | true =>
      obtain ⟨e1, e2, e3⟩ := join_store hs ht ha
      have e4 := vis_len e2
      rw [if_pos rfl, if_pos rfl]
      unfold redpencilref14_Join.f
      dsimp only
      rw [if_pos (by omega), Option.bind_some, jsame_is _ (by omega) (by omega), Option.bind_some, if_pos rfl, jrunes_is (by omega) e2 (by omega), Option.bind_some, jsameI_is _ (by unfold runesOf; rw [List.length_map]; omega) (by unfold runesOf; rw [List.length_map]; omega), Option.bind_some, if_pos rfl, if_pos rfl]
      rfl
theorem EditApplies.walk (A0 : Option Addr) (c0 : Nat) (l0 : List Node) (w : World) (hr0 : Kd.C k53 w A0 l0.length l0) (hc0 : l0.length ≤ c0) (hi0 : ∀ x ∈ l0, runeIn x.f3) (A1 : Option Addr) (c1 : Nat) (l1 : List Node) (hr1 : Kd.C k53 w A1 l1.length l1) (hc1 : l1.length ≤ c1) (hi1 : ∀ x ∈ l1, runeIn x.f3) :
  Calls Tryz.prog 6 #[.slice A0 l0.length c0, .slice A1 l1.length c1] w fun e w' => e = .returned (.bool true) ∧ Below w.heap.size w w' :=
 redpencillaw15_EditApplies.calls 1000 A0 c0 l0 A1 c1 l1 true w hr0 hc0 hr1 hc1 (applies_is l0 l1)
end Go.Proofs.YtmbndijbpgobeaaGreat.PWalk
end
section
namespace Go.Proofs.YtmbndijbpgobeaaGreat.editApplies
open Go.ChangeShapes Go.WideShapes Go.ChangeAt Go.RowKit
open Go.ChangeMaps (open_string shut_string)
open Go.Proofs.YtmbndijbpgobeaaGreatW.PrintWords
set_option linter.unusedVariables false
theorem six_of {α : Type} {cs : List α} (h : cs.length = 6) : ∃ c0 c1 c2 c3 c4 c5, cs = [c0, c1, c2, c3, c4, c5] := by
 match cs, h with
 | [a, b, c, d, e, f], _ => exact ⟨a, b, c, d, e, f, rfl⟩
theorem open_node {H : Type} {enc : TypeId × Value → H} {W : World} {base : Nat} {sp : Nat → Bool} {held : Bool} {fuel : Nat} {cs : List Value} {x : DataW H × List MemPlace} (h : DataW.trod enc Tryz.prog W base sp held fuel 53 cs = some x) :
  ∃ n : PWalk.Node, cs = PWalk.nodeCells n ∧ PWalk.runeIn n.f3 := by
 have e37 : Tryz.prog.cellsOf 53 = 6 := by kernel_rfl
 have e35 : Tryz.prog.cellsOf 25 = 2 := by kernel_rfl
 have e3 : Tryz.prog.cellsOf 3 = 1 := by kernel_rfl
 have e21 : Tryz.prog.cellsOf 21 = 1 := by kernel_rfl
 obtain ⟨y0, y1, y2, y3, n, rfl, hl, h0, h1, h2, h3⟩ := Go.Joins.trod_struct4 Tryz.underlying53 h
 rw [e37] at hl
 obtain ⟨c0, c1, c2, c3, c4, c5, rfl⟩ := six_of hl
 simp only [e35, e3, e21, List.drop_zero, List.drop_succ_cons, List.take_succ_cons, List.take_zero] at h0 h1 h2 h3
 obtain ⟨_, _, _, _, _, g0, g1⟩ := trod_struct2 Tryz.underlying25 h0
 obtain ⟨_, _, _, _, _, g2, g3⟩ := trod_struct2 Tryz.underlying25 h1
 simp only [e3, List.drop_zero, List.drop_succ_cons, List.take_succ_cons, List.take_zero] at g0 g1 g2 g3
 obtain ⟨k0, i0, _, _⟩ := DataW.trod_int Tryz.underlying3 g0
 obtain ⟨k1, i1, _, _⟩ := DataW.trod_int Tryz.underlying3 g1
 obtain ⟨k2, i2, _, _⟩ := DataW.trod_int Tryz.underlying3 g2
 obtain ⟨k3, i3, _, _⟩ := DataW.trod_int Tryz.underlying3 g3
 obtain ⟨k4, i4, _, _⟩ := DataW.trod_int Tryz.underlying3 h2
 obtain ⟨k5, i5, _, hw⟩ := DataW.trod_int Tryz.underlying21 h3
 simp only [List.cons.injEq, and_true] at i0 i1 i2 i3 i4 i5
 subst i0 i1 i2 i3 i4 i5
 refine ⟨⟨⟨k0, k1⟩, ⟨k2, k3⟩, k4, k5⟩, rfl, ?_⟩
 have hw2 : -2147483648 ≤ k5 ∧ k5 ≤ 2147483647 := by simpa [Lit.wf, IntKind.min, IntKind.max, IntKind.signed, IntKind.bits] using hw
 exact ⟨by show _ ≤ k5; omega, by show k5 ≤ _; omega⟩
/-- A []api.Node that came in, nil or not. -/
theorem open_nodes {H : Type} {enc : TypeId × Value → H} {W : World} {A : Option Addr} {len cap : Nat} {x : DataW H × List MemPlace} {fuel : Nat} (h : DataW.trod enc Tryz.prog W 0 (fun _ => true) true fuel 23 [.slice A len cap] = some x) :
  ∃ xs : List PWalk.Node, xs.length = len ∧ Kd.C PWalk.k53 W A len xs ∧ len ≤ cap ∧ ∀ n ∈ xs, PWalk.runeIn n.f3 := by
 have e37 : Tryz.prog.cellsOf 53 = 6 := by kernel_rfl
 rcases Go.Deep.open_slice Tryz.underlying23 h with ⟨hcs, _⟩ | ⟨a, len', cap', m, n, D, Pl, hcs, _, hl, hm, hmm, _, hx⟩
 ·
  simp at hcs
  obtain ⟨rfl, rfl, rfl⟩ := hcs
  exact ⟨[], rfl, ⟨rfl, by omega, fun hp => absurd hp (by omega)⟩, Nat.le_refl _, fun n hn => by cases hn⟩
 ·
  simp at hcs
  obtain ⟨rfl, rfl, rfl⟩ := hcs
  simp only [if_true] at hmm
  subst hmm
  rw [e37] at hx
  haveI : Inhabited PWalk.Node := ⟨⟨⟨0, 0⟩, ⟨0, 0⟩, 0, 0⟩⟩
  obtain ⟨N, hN⟩ := Go.Deep.choose_lt (α := PWalk.Node) (n := len) (p := fun i nd => PWalk.runeIn nd.f3 ∧ ∀ j u, (PWalk.nodeCells nd)[j]? = some u → W.cell? (a.add (i * 6 + j)) = some u) (fun i hi => by
   obtain ⟨cs', h1, h2⟩ := hx i (by omega)
   obtain ⟨nd, rfl, hr⟩ := open_node h2
   refine ⟨nd, hr, fun j u hu => ?_⟩
   obtain ⟨_, hlen, hc⟩ := World.cells?_some h1
   have hj : j < 6 := (List.getElem?_eq_some_iff.1 hu).1
   rw [← Addr.add_add a (i * 6) j]
   rw [← hu]
   exact hc j (by simpa using hj))
  refine ⟨(List.range len).map N, by simp, ⟨by simp, Nat.le_trans hl hm, fun hp => ⟨a, rfl, fun i nd hi => ?_⟩⟩, hl, fun nd hnd => ?_⟩
  ·
   have hil : i < len := by simpa using (List.getElem?_eq_some_iff.1 hi).1
   have hnd : nd = N i := by simpa [hil] using hi.symm
   subst hnd
   refine ⟨PWalk.nodeCells (N i), rfl, PWalk.k53.K_of_M (PWalk.k53_mkM W 0 (fun _ => True) (N i)), fun j u hu => (hN i hil).2 j u hu⟩
  ·
   obtain ⟨i, hi, rfl⟩ := List.mem_map.1 hnd
   exact (hN i (by simpa using hi)).1
theorem own : ownKnob Tryz.prog.godebug = none := by kernel_rfl
theorem laidOut : laidOutB Tryz.prog = true := by kernel_rfl
set_option maxRecDepth 100000 in
set_option maxHeartbeats 2000000 in
theorem lifted (os : Os) (started : os.Started) (H : Type) (enc : TypeId × Value → H) :
  ReturnsInHanded {} Tryz.checked os 6 .any (Rows.editAppliesSpec.pre6 enc Tryz.prog Tryz.f6 Rows.editAppliesRow.domain false) (Rows.editAppliesSpec.post enc Tryz.prog Tryz.f6 false true false false) := by
 refine returnsInHanded_of_change_sized (C := Tryz.checked) own started (by kernel_rfl) Tryz.func6
  (ChangeSpec.witness6 (enc := enc) (C := Tryz.checked) false ⟨#[], #[.slice none 0 0, .slice none 0 0], []⟩ 8 (by kernel_rfl) (by kernel_rfl) (by kernel_rfl) (by kernel_rfl)) ?_
 intro W base args ds gs before hval0 hW hcnd hsz0 _
 have hval : ∀ (j : Nat) t v, Tryz.f6.params[j]? = some t → args[j]? = some v → Value.okWide Tryz.prog W .any base t v := hval0
 have hW' := hW
 obtain ⟨p, q, hA0, hV, rfl, hfz, hnd⟩ := hW
 have hA : DataW.TrodAll enc Tryz.prog W 0 (fun _ => true) true Tryz.f6.params.toList args.toList ds p := hA0
 rw [Tryz.params6] at hA hval
 obtain ⟨v0, vs0, d0, ds0, p0, q0, hargs, rfl, rfl, h0, r0⟩ := trodAll_cons hA
 obtain ⟨v1, vs1, d1, ds1, p1, q1, rfl, rfl, rfl, h1, r1⟩ := trodAll_cons r0
 obtain ⟨rfl, rfl, rfl⟩ := trodAll_nil r1
 obtain rfl : args = #[v0, v1] := by cases args; simp_all
 obtain ⟨rfl, rfl⟩ := trodVars_none hV
 obtain ⟨A0, len0, cap0, rfl⟩ := okWide_slice Tryz.underlying23 (hval 0 23 v0 rfl rfl)
 have k0 := h0
 have lt0 : ∀ x ∈ p0, x.block < W.heap.size := by obtain ⟨m, hm⟩ := k0; exact DataW.trod_lt m _ _ _ hm
 obtain ⟨f0, hf0⟩ := h0
 obtain ⟨xs0, rfl, hr0, hc0, hi0⟩ := open_nodes hf0
 obtain ⟨A1, len1, cap1, rfl⟩ := okWide_slice Tryz.underlying23 (hval 1 23 v1 rfl rfl)
 have k1 := h1
 have lt1 : ∀ x ∈ p1, x.block < W.heap.size := by obtain ⟨m, hm⟩ := k1; exact DataW.trod_lt m _ _ _ hm
 obtain ⟨f1, hf1⟩ := h1
 obtain ⟨xs1, rfl, hr1, hc1, hi1⟩ := open_nodes hf1
 clear hA0 hval0 hsz0
 refine (PWalk.EditApplies.walk A0 cap0 xs0 W hr0 hc0 hi0 A1 cap1 xs1 hr1 hc1 hi1).mono fun e W' ⟨he, bel⟩ => ?_
 subst he
 exact ⟨_, rfl, _, _, _, [], _, [], hW', trodAll_mk1 (shut_bool Tryz.underlying4 _), (trodAll_cons_mk (Below.trod laidOut (by kernel_rfl) (of_decide_eq_true (by kernel_rfl)) k0 bel lt0) (trodAll_cons_mk (Below.trod laidOut (by kernel_rfl) (of_decide_eq_true (by kernel_rfl)) k1 bel lt1) trodAll_mk0)), rfl, bel.frame _, fun h => by cases h⟩
theorem over : Rows.editAppliesRow.holds Tryz.pinned (OpenSpec.ofChange Rows.editAppliesSpec) :=
 OpenClaim.holds_of_wide 6 Tryz.f6 rfl rfl rfl rfl rfl rfl rfl ⟨rfl, rfl, rfl, rfl, rfl⟩ rfl rfl rfl rfl rfl (by kernel_rfl) Tryz.func6 (by kernel_rfl)
  (of_decide_eq_true (by kernel_rfl)) (by unfold Func.isWrapper; first | (rw [if_pos (by decide +kernel)]; kernel_rfl) | (rw [if_neg (by decide +kernel)]; exact ⟨rfl, rfl⟩))
  (fun os started H enc _ => lifted os started H enc)
theorem proved : Rows.EditAppliesSaid := over
#print axioms proved
end Go.Proofs.YtmbndijbpgobeaaGreat.editApplies
end
