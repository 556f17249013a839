/-
  The law IndexParts: what index.Left and index.Dots answer for any nodes and any indices. Part 10 of 10.
-/
import Derived.Test.YtjlpaagnajmogaaGreatXI
import Derived.Test.YtjlpaagnajmogaaGreatRows
import Derived.WalkKit
import Derived.ProofKit
import Derived.OpenShut
import Derived.ShutString
import Derived.ChangeOld
import Derived.Below
import Derived.SizedLaws
import Derived.Deep.DeepHandedRow
import Derived.Deep.Slices
import Derived.Lib.SmallJoins
section
namespace Go.Proofs.YtjlpaagnajmogaaGreat.PWalk
open Go.RowKit Go.Proofs.YtjlpaagnajmogaaGreatW.PrintWords Go.Proofs.YtjlpaagnajmogaaGreatW.PrintLast Go.Proofs.YtjlpaagnajmogaaGreatW.PrintMore
set_option linter.unusedVariables false
set_option linter.unusedSimpArgs false
def redpencilref12_Dots.f (k : Nat) (l0 : List (S35)) : Option ((List (S24))) := (redpencilref12_Visible.f k l0).bind fun t527 => ((redpencilref10_Dots.f k t527 false).bind fun t530 => (some t530))
set_option maxHeartbeats 8000000 in
set_option maxRecDepth 100000 in
theorem redpencilref12_Dots.calls (k : Nat) (A0 : Option Addr) (c0 : Nat) (l0 : List (S35)) (r : List (S24)) (w : World) (hr0 : Kd.C k35 w A0 l0.length l0) (hc0 : l0.length ≤ c0) (h : redpencilref12_Dots.f k l0 = some r) :
  Calls Tryz.prog 48 #[.slice A0 l0.length c0] w fun e w' => ∃ v0_ : Value, e = .returned (v0_) ∧ Kd.R k24 24 w' w.heap.size (fun _ => True) v0_ r ∧ Below w.heap.size w w' := by
 have HR0 := Aside0.mk hr0
 have HC0 := Aside0.mk hc0
 clear hr0 hc0
 have HB := Aside0.mk (Below.refl w.heap.size w)
 have H : ((redpencilref12_Visible.f k l0).bind fun t527 => ((redpencilref10_Dots.f k t527 false).bind fun t530 => (some t530))) = some r := h
 clear h
 replace H := Option.bind_eq_some_iff.mp H
 obtain ⟨t527, A20, H⟩ := H
 replace H : ((redpencilref10_Dots.f k t527 false).bind fun t530 => (some t530)) = some r := H
 have A2 := Aside0.mk A20
 clear A20
 replace H := Option.bind_eq_some_iff.mp H
 obtain ⟨t530, A30, H⟩ := H
 replace H : (some t530) = some r := H
 have A3 := Aside0.mk A30
 clear A30
 obtain rfl := Option.some.inj H
 go_enter Tryz.func48, Tryz.ntmps48
 go_wp2_with (first | ((with_reducible refine gate_callee (f := 43) rfl ?_); refine goesL_ (some 4) rfl rfl Tryz.func43 (by kernel_rfl) rfl #[.slice A0 l0.length c0] rfl (by (try simp only [List.map_toArray, List.map_cons, List.map_nil]); first | done | rfl | (simp only [List.length_drop, List.length_take]; rfl)) ?_; (with_reducible refine (redpencilref12_Visible.calls k _ _ l0 t527 _ ?side1 ?side2 A2.out).mono ?_); (case side1 => repeat (first | exact HR0.out | (with_reducible refine Kd.C_alloc ?_ _) | (with_reducible refine Kd.C_drewN ?_ _) | (with_reducible refine Kd.C_drew ?_))); (case side2 => exact HC0.out); rintro e w4 ⟨v528, rfl, ho0, hb⟩; refine ⟨_, rfl, ?_⟩; have n0_ := Aside0.mk (Kd.R_lower ho0 (below_size (by repeat (first | (with_reducible first | exact HB.out | apply below_alloc | apply pw_below_drewN | apply below_drew1) | exact HB.out)))); have n1_ := Aside0.mk (below_step (by repeat (first | (with_reducible first | exact HB.out | apply below_alloc | apply pw_below_drewN | apply below_drew1) | exact HB.out)) hb); clear HB; have HO529 := n0_; have HB := n1_; clear n0_ n1_; (try clear hb); (try clear hb2); (try clear hk); (try clear hi); (try clear ho0); obtain ⟨Ao5, co5, eo5⟩ := Kd.R_slice HO529.out; subst eo5) | ((with_reducible refine gate_callee (f := 74) rfl ?_); refine goesL_ (some 5) rfl rfl Tryz.func74 (by kernel_rfl) rfl #[.slice Ao5 t527.length co5, .bool false] rfl (by (try simp only [List.map_toArray, List.map_cons, List.map_nil]); first | done | rfl | (simp only [List.length_drop, List.length_take]; rfl)) ?_; (with_reducible refine (redpencilref10_Dots.calls k _ _ t527 false t530 _ ?side1 ?side2 A3.out).mono ?_); (case side1 => repeat (first | exact (Kd.R_reads' HO529.out).2.2 | (with_reducible refine Kd.C_alloc ?_ _) | (with_reducible refine Kd.C_drewN ?_ _) | (with_reducible refine Kd.C_drew ?_))); (case side2 => exact (Kd.R_reads' HO529.out).2.1); rintro e w6 ⟨v531, rfl, ho0, hb⟩; refine ⟨_, rfl, ?_⟩; have n0_ := Aside0.mk (Kd.R_below (by (with_reducible repeat (first | apply Kd.R_alloc | apply Kd.R_drewN | apply Kd.R_drew)); exact HO529.out) hb); have n1_ := Aside0.mk (Kd.R_lower ho0 (below_size (by repeat (first | (with_reducible first | exact HB.out | apply below_alloc | apply pw_below_drewN | apply below_drew1) | exact HB.out)))); have n2_ := Aside0.mk (below_step (by repeat (first | (with_reducible first | exact HB.out | apply below_alloc | apply pw_below_drewN | apply below_drew1) | exact HB.out)) hb); clear HO529; clear HB; have HO529 := n0_; have HO532 := n1_; have HB := n2_; clear n0_ n1_ n2_; (try clear hb); (try clear hb2); (try clear hk); (try clear hi); (try clear ho0)))
 go_ret
 exact ⟨_, by first | rfl | (simp [errW_none, errW_some] <;> rfl) | (simp [*, errW_none, errW_some] <;> rfl), by (with_reducible repeat (first | apply Kd.R_alloc | apply Kd.R_drewN | apply Kd.R_drew)); exact HO532.out, by repeat (first | (with_reducible first | exact HB.out | apply below_alloc | apply pw_below_drewN | apply below_drew1) | exact HB.out)⟩
mutual
def redpencillaw12_IndexParts.j1 : Nat → List (S35) → Int → Int → Int → List (S24) → Int → Int → Int → Option (Bool)
 | 0, _, _, _, _, _, _, _, _ => none
 | k + 1, x0, x1, x2, x3, x10, x12, x543000, x543001 => (redpencillaw12_left.f k x0 x1 x543000 x543001 x12).bind fun t544 => (if t544 = true then (if x2 < 0 then (redpencillaw12_IndexParts.j2 k x0 x2 x3 x10 true) else (if x3 < x2 then (redpencillaw12_IndexParts.j2 k x0 x2 x3 x10 true) else (redpencillaw12_IndexParts.j2 k x0 x2 x3 x10 (decide (x3 > (x10.length : Int)))))) else (some false))
def redpencillaw12_IndexParts.j2 : Nat → List (S35) → Int → Int → List (S24) → Bool → Option (Bool)
 | 0, _, _, _, _, _ => none
 | k + 1, x0, x2, x3, x10, x72 => if x72 = true then ((redpencillaw12_dots.f k x0 x2 x3 ([] : List (S24)) 3).bind fun t545 => (if t545 = true then ((redpencillaw12_known.f).bind fun t546 => (some t546)) else (some false))) else (if 0 ≤ x2 then (if x2 ≤ x3 then (if x3 ≤ (x10.length : Int) then ((redpencillaw12_dots.f k x0 x2 x3 ((x10.take (x3 : Int).toNat).drop (x2 : Int).toNat) 0).bind fun t551 => (if t551 = true then ((redpencillaw12_known.f).bind fun t552 => (some t552)) else (some false))) else (none)) else (none)) else (none))
def redpencillaw12_IndexParts.j0 : Nat → List (S35) → Int → Int → Int → List (S24) → Int → Bool → Int → Int → Option (Bool)
 | 0, _, _, _, _, _, _, _, _, _ => none
 | k + 1, x0, x1, x2, x3, x10, x12, x37, x543000, x543001 => if x37 = true then (redpencillaw12_IndexParts.j1 k x0 x1 x2 x3 x10 3 x543000 x543001) else (if x1 > 0 then (if 0 ≤ (wrap64 (x1 - 1)) then (if (wrap64 (x1 - 1)) < (x10.length : Int) then (redpencillaw12_IndexParts.j1 k x0 x1 x2 x3 x10 x12 ((rd_T24 x10 (wrap64 (x1 - 1))).f0) ((rd_T24 x10 (wrap64 (x1 - 1))).f1)) else (none)) else (none)) else (redpencillaw12_IndexParts.j1 k x0 x1 x2 x3 x10 x12 x543000 x543001))
end
def redpencillaw12_IndexParts.f (k : Nat) (l0 : List (S35)) (a1 : Int) (a2 : Int) (a3 : Int) : Option (Bool) := if (l0.length : Int) > 40 then ((redpencillaw12_known.f).bind fun t533 => (some t533)) else ((redpencilref10_Valid.f k l0).bind fun t535 => (if t535 = true then ((redpencilref12_Dots.f k l0).bind fun t539 => (if a1 < 0 then (redpencillaw12_IndexParts.j0 k l0 a1 a2 a3 t539 0 true 0 0) else (redpencillaw12_IndexParts.j0 k l0 a1 a2 a3 t539 0 (decide (a1 > (t539.length : Int))) 0 0))) else ((redpencillaw12_left.f k l0 a1 0 0 2).bind fun t536 => (if t536 = true then ((redpencillaw12_dots.f k l0 a2 a3 ([] : List (S24)) 2).bind fun t537 => (if t537 = true then ((redpencillaw12_known.f).bind fun t538 => (some t538)) else (some false))) else (some false)))))
set_option maxHeartbeats 8000000 in
set_option maxRecDepth 100000 in
theorem redpencillaw12_IndexParts.calls (k : Nat) (A0 : Option Addr) (c0 : Nat) (l0 : List (S35)) (a1 : Int) (a2 : Int) (a3 : Int) (r : Bool) (w : World) (hr0 : Kd.C k35 w A0 l0.length l0) (hc0 : l0.length ≤ c0) (h : redpencillaw12_IndexParts.f k l0 a1 a2 a3 = some r) :
  Calls Tryz.prog 9 #[.slice A0 l0.length c0, .int .i64 a1, .int .i64 a2, .int .i64 a3] w fun e w' => e = .returned (.bool r) ∧ Below w.heap.size w w' := by
 have hu24 := Tryz.underlying24
 have HR0 := Aside0.mk hr0
 have HC0 := Aside0.mk hc0
 clear hr0 hc0
 have HB := Aside0.mk (Below.refl w.heap.size w)
 have H : (if (l0.length : Int) > 40 then ((redpencillaw12_known.f).bind fun t533 => (some t533)) else ((redpencilref10_Valid.f k l0).bind fun t535 => (if t535 = true then ((redpencilref12_Dots.f k l0).bind fun t539 => (if a1 < 0 then (redpencillaw12_IndexParts.j0 k l0 a1 a2 a3 t539 0 true 0 0) else (redpencillaw12_IndexParts.j0 k l0 a1 a2 a3 t539 0 (decide (a1 > (t539.length : Int))) 0 0))) else ((redpencillaw12_left.f k l0 a1 0 0 2).bind fun t536 => (if t536 = true then ((redpencillaw12_dots.f k l0 a2 a3 ([] : List (S24)) 2).bind fun t537 => (if t537 = true then ((redpencillaw12_known.f).bind fun t538 => (some t538)) else (some false))) else (some false)))))) = some r := h
 clear h
 by_cases c5 : (l0.length : Int) > 40
 ·
  rw [if_pos c5] at H
  have c5b0 : decide (40 < (l0.length : Int)) = true := decide_eq_true c5
  have c5b1 : decide (40 < l0.length) = true := decide_eq_true (by omega)
  clear c5
  replace H := Option.bind_eq_some_iff.mp H
  obtain ⟨t533, A60, H⟩ := H
  replace H : (some t533) = some r := H
  have A6 := Aside0.mk A60
  clear A60
  obtain rfl := Option.some.inj H
  go_enter Tryz.func9, Tryz.ntmps9
  go_wp2_with (first | ((with_reducible refine gate_callee (f := 34) rfl ?_); refine goesL_ (some 16) rfl rfl Tryz.func34 (by kernel_rfl) rfl #[] rfl (by (try simp only [List.map_toArray, List.map_cons, List.map_nil]); first | done | rfl | (simp only [List.length_drop, List.length_take]; rfl)) ?_; (with_reducible refine (redpencillaw12_known.calls  t533 _ A6.out).mono ?_); rintro e w7 ⟨rfl, hb⟩; refine ⟨_, rfl, ?_⟩; have n0_ := Aside0.mk (below_step (by repeat (first | (with_reducible first | exact HB.out | apply below_alloc | apply pw_below_drewN | apply below_drew1) | exact HB.out)) hb); clear HB; have HB := n0_; clear n0_; (try clear hb); (try clear hb2); (try clear hk); (try clear hi)))
  go_ret
  exact ⟨by first | rfl | (simp [errW_none, errW_some] <;> rfl) | (simp [*, errW_none, errW_some] <;> rfl), by repeat (first | (with_reducible first | exact HB.out | apply below_alloc | apply pw_below_drewN | apply below_drew1) | exact HB.out)⟩
 ·
  rw [if_neg c5] at H
  have c5b0 : decide (40 < (l0.length : Int)) = false := decide_eq_false c5
  have c5b1 : decide (40 < l0.length) = false := decide_eq_false (by omega)
  clear c5
  replace H := Option.bind_eq_some_iff.mp H
  obtain ⟨t535, A80, H⟩ := H
  replace H : (if t535 = true then ((redpencilref12_Dots.f k l0).bind fun t539 => (if a1 < 0 then (redpencillaw12_IndexParts.j0 k l0 a1 a2 a3 t539 0 true 0 0) else (redpencillaw12_IndexParts.j0 k l0 a1 a2 a3 t539 0 (decide (a1 > (t539.length : Int))) 0 0))) else ((redpencillaw12_left.f k l0 a1 0 0 2).bind fun t536 => (if t536 = true then ((redpencillaw12_dots.f k l0 a2 a3 ([] : List (S24)) 2).bind fun t537 => (if t537 = true then ((redpencillaw12_known.f).bind fun t538 => (some t538)) else (some false))) else (some false)))) = some r := H
  have A8 := Aside0.mk A80
  clear A80
  by_cases c9 : t535 = true
  ·
   subst c9
   have H1 : ((redpencilref12_Dots.f k l0).bind fun t539 => (if a1 < 0 then (redpencillaw12_IndexParts.j0 k l0 a1 a2 a3 t539 0 true 0 0) else (redpencillaw12_IndexParts.j0 k l0 a1 a2 a3 t539 0 (decide (a1 > (t539.length : Int))) 0 0))) = some r := by rw [if_pos rfl] at H; exact H
   clear H
   have H := H1
   clear H1
   replace H := Option.bind_eq_some_iff.mp H
   obtain ⟨t539, A100, H⟩ := H
   replace H : (if a1 < 0 then (redpencillaw12_IndexParts.j0 k l0 a1 a2 a3 t539 0 true 0 0) else (redpencillaw12_IndexParts.j0 k l0 a1 a2 a3 t539 0 (decide (a1 > (t539.length : Int))) 0 0)) = some r := H
   have A10 := Aside0.mk A100
   clear A100
   have HC11 := Aside0.mk H
   clear H
   go_enter Tryz.func9, Tryz.ntmps9
   go_upto_block 0 with (first | ((with_reducible refine gate_dst (N := 9) rfl ?_); (try (refine gate_guard (by rfl) ?_; dsimp only)); refine box_event ?hg (N := 9) ?hd (cs := #[.int .i64 0, .int .i64 0]) (t := 24) ?hr ?_; (case hd => rfl); (case hg => rfl); (case hr => first | (go_simp; done) | (go_simp; rfl)); intro gb534 hg w12 hbox hb; have n0_ := Aside0.mk (below_step (by repeat (first | (with_reducible first | exact HB.out | apply below_alloc | apply pw_below_drewN | apply below_drew1) | exact HB.out)) hb); have n1_ := Aside0.mk (hbox); have n2_ := Aside0.mk ((by rw [hg]; exact (below_size (by repeat (first | (with_reducible first | exact HB.out | apply below_alloc | apply pw_below_drewN | apply below_drew1) | exact HB.out))) : w.heap.size ≤ gb534)); have n3_ := Aside0.mk ((by rw [hg]; exact (below_size (by repeat (first | (with_reducible first | exact HB.out | apply below_alloc | apply pw_below_drewN | apply below_drew1) | exact HB.out))) : w.heap.size ≤ gb534)); clear HB; have HB := n0_; have BK534 := n1_; have GW534 := n2_; have GE534 := n3_; clear n0_ n1_ n2_ n3_; clear hb hbox hg; have hcz13_0 : w12.cell? ⟨gb534, 0, none⟩ = some (.int .i64 0) := (blk_cell BK534.out 0).trans rfl; have hcz13_1 : w12.cell? ⟨gb534, 1, none⟩ = some (.int .i64 0) := (blk_cell BK534.out 1).trans rfl; have hfz13_0 := blk_frozen BK534.out 0; have hfz13_1 := blk_frozen BK534.out 1) | ((with_reducible refine gate_callee (f := 14) rfl ?_); refine goesL_ (some 19) rfl rfl Tryz.func14 (by kernel_rfl) rfl #[.slice A0 l0.length c0] rfl (by (try simp only [List.map_toArray, List.map_cons, List.map_nil]); first | done | rfl | (simp only [List.length_drop, List.length_take]; rfl)) ?_; (with_reducible refine (redpencilref10_Valid.calls k _ _ l0 true _ ?side1 ?side2 A8.out).mono ?_); (case side1 => exact Kd.C_below HR0.out (by repeat (first | (with_reducible first | exact HB.out | apply below_alloc | apply pw_below_drewN | apply below_drew1 | refine below_set ?_ GE534.out) | exact HB.out))); (case side2 => exact HC0.out); rintro e w14 ⟨rfl, hb⟩; refine ⟨_, rfl, ?_⟩; have n0_ := Aside0.mk (blk_below (g := gb534) (o := .cells #[.int .i64 0, .int .i64 0] 24 (0, 0)) (by (with_reducible repeat (first | refine blk_drewN ?_ _ | refine blk_drew ?_ | refine blk_alloc ?_ _)); refine blk_put (cs := #[.int .i64 0, .int .i64 0]) ?_ 1 _ rfl; (with_reducible repeat (first | refine blk_drewN ?_ _ | refine blk_drew ?_ | refine blk_alloc ?_ _)); refine blk_put (cs := #[.int .i64 0, .int .i64 0]) ?_ 0 _ rfl; (with_reducible repeat (first | refine blk_drewN ?_ _ | refine blk_drew ?_ | refine blk_alloc ?_ _)); exact BK534.out) hb); have n1_ := Aside0.mk (below_step (by repeat (first | (with_reducible first | exact HB.out | apply below_alloc | apply pw_below_drewN | apply below_drew1 | refine below_set ?_ GE534.out) | exact HB.out)) hb); clear BK534; clear HB; have BK534 := n0_; have HB := n1_; clear n0_ n1_; (try clear hb); (try clear hb2); (try clear hk); (try clear hi)) | ((with_reducible refine gate_callee (f := 48) rfl ?_); refine goesL_ (some 35) rfl rfl Tryz.func48 (by kernel_rfl) rfl #[.slice A0 l0.length c0] rfl (by (try simp only [List.map_toArray, List.map_cons, List.map_nil]); first | done | rfl | (simp only [List.length_drop, List.length_take]; rfl)) ?_; (with_reducible refine (redpencilref12_Dots.calls k _ _ l0 t539 _ ?side1 ?side2 A10.out).mono ?_); (case side1 => repeat (first | exact (Kd.C_below HR0.out HB.out) | (with_reducible refine Kd.C_alloc ?_ _) | (with_reducible refine Kd.C_drewN ?_ _) | (with_reducible refine Kd.C_drew ?_))); (case side2 => exact HC0.out); rintro e w15 ⟨v540, rfl, ho0, hb⟩; refine ⟨_, rfl, ?_⟩; have n0_ := Aside0.mk (Kd.R_lower (Kd.R_newB ho0 (g := gb534) (o := .cells #[.int .i64 0, .int .i64 0] 24 (0, 0)) (by (with_reducible repeat (first | refine blk_drewN ?_ _ | refine blk_drew ?_ | refine blk_alloc ?_ _)); exact BK534.out)) (below_size (by repeat (first | (with_reducible first | exact HB.out | apply below_alloc | apply pw_below_drewN | apply below_drew1 | refine below_set ?_ GE534.out) | exact HB.out)))); have n1_ := Aside0.mk (blk_below (g := gb534) (o := .cells #[.int .i64 0, .int .i64 0] 24 (0, 0)) (by (with_reducible repeat (first | refine blk_drewN ?_ _ | refine blk_drew ?_ | refine blk_alloc ?_ _)); exact BK534.out) hb); have n2_ := Aside0.mk (below_step (by repeat (first | (with_reducible first | exact HB.out | apply below_alloc | apply pw_below_drewN | apply below_drew1 | refine below_set ?_ GE534.out) | exact HB.out)) hb); clear BK534; clear HB; have HO541 := n0_; have BK534 := n1_; have HB := n2_; clear n0_ n1_ n2_; (try clear hb); (try clear hb2); (try clear hk); (try clear hi); (try clear ho0); have hcz16_0 : w15.cell? ⟨gb534, 0, none⟩ = some (.int .i64 0) := (blk_cell BK534.out 0).trans rfl; have hcz16_1 : w15.cell? ⟨gb534, 1, none⟩ = some (.int .i64 0) := (blk_cell BK534.out 1).trans rfl; have hfz16_0 := blk_frozen BK534.out 0; have hfz16_1 := blk_frozen BK534.out 1) | ((with_reducible refine gate_dst (N := 11) rfl ?_); (try (refine gate_guard (by rfl) ?_; dsimp only)); refine box_event ?hg (N := 11) ?hd (cs := #[.int .i64 0, .int .i64 0]) (t := 24) ?hr ?_; (case hd => rfl); (case hg => rfl); (case hr => first | (go_simp; done) | (go_simp; rfl)); intro gb542 hg w17 hbox hb; have n0_ := Aside0.mk (Kd.R_below (Kd.R_elderB (by (with_reducible repeat (first | apply Kd.R_alloc | apply Kd.R_drewN | apply Kd.R_drew)); exact HO541.out) gb542 (Nat.le_of_eq hg.symm)) hb); have n1_ := Aside0.mk (blk_below (g := gb534) (o := .cells #[.int .i64 0, .int .i64 0] 24 (0, 0)) (by (with_reducible repeat (first | refine blk_drewN ?_ _ | refine blk_drew ?_ | refine blk_alloc ?_ _)); exact BK534.out) hb); have n2_ := Aside0.mk (below_step (by repeat (first | (with_reducible first | exact HB.out | apply below_alloc | apply pw_below_drewN | apply below_drew1 | refine below_set ?_ GE534.out) | exact HB.out)) hb); have n3_ := Aside0.mk (hbox); have n4_ := Aside0.mk ((by rw [hg]; exact (below_size (by repeat (first | (with_reducible first | exact HB.out | apply below_alloc | apply pw_below_drewN | apply below_drew1 | refine below_set ?_ GE534.out) | exact HB.out))) : w.heap.size ≤ gb542)); have n5_ := Aside0.mk ((by rw [hg]; exact (below_size (by repeat (first | (with_reducible first | exact HB.out | apply below_alloc | apply pw_below_drewN | apply below_drew1 | refine below_set ?_ GE534.out) | exact HB.out))) : w.heap.size ≤ gb542)); have n6_ := Aside0.mk ((by rw [hg]; exact Nat.ne_of_lt (blk_lt (g := gb534) (o := .cells #[.int .i64 0, .int .i64 0] 24 (0, 0)) (by (with_reducible repeat (first | refine blk_drewN ?_ _ | refine blk_drew ?_ | refine blk_alloc ?_ _)); exact BK534.out)) : gb534 ≠ gb542)); have n7_ := Aside0.mk ((by rw [hg]; exact Nat.ne_of_gt (blk_lt (g := gb534) (o := .cells #[.int .i64 0, .int .i64 0] 24 (0, 0)) (by (with_reducible repeat (first | refine blk_drewN ?_ _ | refine blk_drew ?_ | refine blk_alloc ?_ _)); exact BK534.out)) : gb542 ≠ gb534)); clear HO541; clear BK534; clear HB; have HO541 := n0_; have BK534 := n1_; have HB := n2_; have BK542 := n3_; have GW542 := n4_; have GE542 := n5_; have NB534_542 := n6_; have NB542_534 := n7_; clear n0_ n1_ n2_ n3_ n4_ n5_ n6_ n7_; clear hb hbox hg; have hnb18 := NB542_534.out; have hnc18 := NB534_542.out; have hcz19_0 : w17.cell? ⟨gb542, 0, none⟩ = some (.int .i64 0) := (blk_cell BK542.out 0).trans rfl; have hcz19_1 : w17.cell? ⟨gb542, 1, none⟩ = some (.int .i64 0) := (blk_cell BK542.out 1).trans rfl; have hfz19_0 := blk_frozen BK542.out 0; have hfz19_1 := blk_frozen BK542.out 1))
   (try simp only [Act.put, List.setIfInBounds_toArray, List.set_cons_zero, List.set_cons_succ])
   go_cut [12] (fun v12 wc => ∃ (kq : Nat) (x12_10 : Int) (x543000_10 : Int) (x543001_10 : Int), v12 = .int .i64 x12_10 ∧ Aside0 (redpencillaw12_IndexParts.j1 kq l0 a1 a2 a3 t539 x12_10 x543000_10 x543001_10 = some r) ∧ Aside0 (kq ≤ k) ∧ Aside0 (Kd.R k24 24 wc w.heap.size (fun k_ => k_ ≠ gb534 ∧ k_ ≠ gb542) v540 t539) ∧ Aside0 (wc.heap[gb534]? = some (.cells #[.int .i64 0, .int .i64 0] 24 (0, 0))) ∧ Aside0 (wc.heap[gb542]? = some (.cells #[.int .i64 x543000_10, .int .i64 x543001_10] 24 (0, 0))) ∧ Aside0 (Below w.heap.size w wc))
   case first =>
    have H := HC11.out
    clear HC11
    have HC20 := Aside0.mk H
    clear H
    go_upto_region 8 with (fail)
    go_cut [37] (fun v37 wc => ∃ (kq : Nat) (x37_19 : Bool), v37 = .bool x37_19 ∧ Aside0 (redpencillaw12_IndexParts.j0 kq l0 a1 a2 a3 t539 0 x37_19 0 0 = some r) ∧ Aside0 (kq ≤ k) ∧ Aside0 (Kd.R k24 24 wc w.heap.size (fun k_ => k_ ≠ gb534 ∧ k_ ≠ gb542) v540 t539) ∧ Aside0 (wc.heap[gb534]? = some (.cells #[.int .i64 0, .int .i64 0] 24 (0, 0))) ∧ Aside0 (wc.heap[gb542]? = some (.cells #[.int .i64 0, .int .i64 0] 24 (0, 0))) ∧ Aside0 (Below w.heap.size w wc))
    case first =>
     have H := HC20.out
     clear HC20
     by_cases c21 : a1 < 0
     ·
      rw [if_pos c21] at H
      have c21b0 : decide (a1 < 0) = true := decide_eq_true c21
      clear c21
      (first | rw [c21b0] | (simp only [i64_w, i32_w]; rw [c21b0]) | rw [c21b1] | skip)
      have H' := Aside0.mk H
      clear H
      go_wp2
      go_meet
      case rel => exact ⟨_, (true), (by first | rfl | (simp; done) | (simp [*]; done)), H', ⟨by first | omega | exact Nat.le_refl _⟩, ⟨by (with_reducible repeat (first | apply Kd.R_alloc | apply Kd.R_drewN | apply Kd.R_drew)); exact Kd.R_mono (Kd.R_far (p := ⟨gb542, 1, none⟩) (Kd.R_far (p := ⟨gb542, 0, none⟩) (Kd.R_mono HO541.out (fun k_ hk => (⟨hk, hk.2⟩ : _ ∧ k_ ≠ gb542))) (fun _ hk => hk.2) (.int .i64 0)) (fun _ hk => hk.2) (.int .i64 0)) (fun _ hk => ⟨hk.1.1.2, hk.1.2⟩)⟩, ⟨by (with_reducible repeat (first | refine blk_drewN ?_ _ | refine blk_drew ?_ | refine blk_alloc ?_ _)); refine blk_far ?_ NB534_542.out _; (with_reducible repeat (first | refine blk_drewN ?_ _ | refine blk_drew ?_ | refine blk_alloc ?_ _)); refine blk_far ?_ NB534_542.out _; (with_reducible repeat (first | refine blk_drewN ?_ _ | refine blk_drew ?_ | refine blk_alloc ?_ _)); exact BK534.out⟩, ⟨by (with_reducible repeat (first | refine blk_drewN ?_ _ | refine blk_drew ?_ | refine blk_alloc ?_ _)); refine blk_put (cs := #[.int .i64 0, .int .i64 0]) ?_ 1 _ rfl; (with_reducible repeat (first | refine blk_drewN ?_ _ | refine blk_drew ?_ | refine blk_alloc ?_ _)); refine blk_put (cs := #[.int .i64 0, .int .i64 0]) ?_ 0 _ rfl; (with_reducible repeat (first | refine blk_drewN ?_ _ | refine blk_drew ?_ | refine blk_alloc ?_ _)); exact BK542.out⟩, ⟨by repeat (first | (with_reducible first | exact HB.out | apply below_alloc | apply pw_below_drewN | apply below_drew1 | refine below_set ?_ GE534.out | refine below_set ?_ GE542.out) | exact HB.out)⟩⟩
     ·
      rw [if_neg c21] at H
      have c21b0 : decide (a1 < 0) = false := decide_eq_false c21
      clear c21
      (first | rw [c21b0] | (simp only [i64_w, i32_w]; rw [c21b0]) | rw [c21b1] | skip)
      have H' := Aside0.mk H
      clear H
      obtain ⟨Ao22, co22, eo22⟩ := Kd.R_slice HO541.out
      subst eo22
      go_wp2
      go_meet
      case rel => exact ⟨_, (decide (a1 > (t539.length : Int))), (by first | rfl | (simp; done) | (simp [*]; done)), H', ⟨by first | omega | exact Nat.le_refl _⟩, ⟨by (with_reducible repeat (first | apply Kd.R_alloc | apply Kd.R_drewN | apply Kd.R_drew)); exact Kd.R_mono (Kd.R_far (p := ⟨gb542, 1, none⟩) (Kd.R_far (p := ⟨gb542, 0, none⟩) (Kd.R_mono HO541.out (fun k_ hk => (⟨hk, hk.2⟩ : _ ∧ k_ ≠ gb542))) (fun _ hk => hk.2) (.int .i64 0)) (fun _ hk => hk.2) (.int .i64 0)) (fun _ hk => ⟨hk.1.1.2, hk.1.2⟩)⟩, ⟨by (with_reducible repeat (first | refine blk_drewN ?_ _ | refine blk_drew ?_ | refine blk_alloc ?_ _)); refine blk_far ?_ NB534_542.out _; (with_reducible repeat (first | refine blk_drewN ?_ _ | refine blk_drew ?_ | refine blk_alloc ?_ _)); refine blk_far ?_ NB534_542.out _; (with_reducible repeat (first | refine blk_drewN ?_ _ | refine blk_drew ?_ | refine blk_alloc ?_ _)); exact BK534.out⟩, ⟨by (with_reducible repeat (first | refine blk_drewN ?_ _ | refine blk_drew ?_ | refine blk_alloc ?_ _)); refine blk_put (cs := #[.int .i64 0, .int .i64 0]) ?_ 1 _ rfl; (with_reducible repeat (first | refine blk_drewN ?_ _ | refine blk_drew ?_ | refine blk_alloc ?_ _)); refine blk_put (cs := #[.int .i64 0, .int .i64 0]) ?_ 0 _ rfl; (with_reducible repeat (first | refine blk_drewN ?_ _ | refine blk_drew ?_ | refine blk_alloc ?_ _)); exact BK542.out⟩, ⟨by repeat (first | (with_reducible first | exact HB.out | apply below_alloc | apply pw_below_drewN | apply below_drew1 | refine below_set ?_ GE534.out | refine below_set ?_ GE542.out) | exact HB.out)⟩⟩
    case rest =>
     clear HC20
     try clear c1
     try clear c2
     try clear p2
     try clear c3
     try clear c4
     try clear c5
     try clear c5b0
     try clear c5b1
     try clear c9
     try clear c14
     try clear c18
     try clear c21
     try clear c21b0
     try clear hcz13_0
     try clear hcz13_1
     try clear hcz16_0
     try clear hcz16_1
     try clear hcz19_0
     try clear hcz19_1
     try clear hfz13_0
     try clear hfz13_1
     try clear hfz16_0
     try clear hfz16_1
     try clear hfz19_0
     try clear hfz19_1
     obtain ⟨kq, x37_19, rfl, HA, HJ19, HO_10, BK534, BK542, HB⟩ := hcut
     cases kq with
     | zero => exact absurd HA.out (by simp [redpencillaw12_IndexParts.j0])
     | succ kj19 =>
      have H := HA.out
      clear HA
      simp only [redpencillaw12_IndexParts.j0] at H
      by_cases c23 : x37_19 = true
      ·
       subst c23
       have H1 : (redpencillaw12_IndexParts.j1 kj19 l0 a1 a2 a3 t539 3 0 0) = some r := by rw [if_pos rfl] at H; exact H
       clear H
       have H := H1
       clear H1
       have H' := Aside0.mk H
       clear H
       go_wp2
       go_meet
       case rel => exact ⟨_, (3), (0), (0), (by first | rfl | (simp; done) | (simp [*]; done)), H', ⟨by have := HJ19.out; first | omega | exact Nat.le_refl _⟩, ⟨by (with_reducible repeat (first | apply Kd.R_alloc | apply Kd.R_drewN | apply Kd.R_drew)); exact HO_10.out⟩, ⟨by (with_reducible repeat (first | refine blk_drewN ?_ _ | refine blk_drew ?_ | refine blk_alloc ?_ _)); exact BK534.out⟩, ⟨by (with_reducible repeat (first | refine blk_drewN ?_ _ | refine blk_drew ?_ | refine blk_alloc ?_ _)); exact BK542.out⟩, ⟨by repeat (first | (with_reducible first | exact HB.out | apply below_alloc | apply pw_below_drewN | apply below_drew1 | refine below_set ?_ GE534.out | refine below_set ?_ GE542.out) | exact HB.out)⟩⟩
      ·
       replace c23 := Bool.eq_false_iff.mpr c23
       subst c23
       have H1 : (if a1 > 0 then (if 0 ≤ (wrap64 (a1 - 1)) then (if (wrap64 (a1 - 1)) < (t539.length : Int) then (redpencillaw12_IndexParts.j1 kj19 l0 a1 a2 a3 t539 0 ((rd_T24 t539 (wrap64 (a1 - 1))).f0) ((rd_T24 t539 (wrap64 (a1 - 1))).f1)) else (none)) else (none)) else (redpencillaw12_IndexParts.j1 kj19 l0 a1 a2 a3 t539 0 0 0)) = some r := by rw [if_neg (show ¬ (false = true) by decide)] at H; exact H
       clear H
       have H := H1
       clear H1
       by_cases c24 : a1 > 0
       ·
        rw [if_pos c24] at H
        have c24b0 : decide (0 < a1) = true := decide_eq_true c24
        clear c24
        obtain ⟨ji25, hji25⟩ : ∃ j_ : Int, (wrap64 (a1 - 1)) = j_ := ⟨_, rfl⟩
        replace H : (if 0 ≤ (ji25) then (if (ji25) < (t539.length : Int) then (redpencillaw12_IndexParts.j1 kj19 l0 a1 a2 a3 t539 0 ((rd_T24 t539 (ji25)).f0) ((rd_T24 t539 (ji25)).f1)) else (none)) else (none)) = some r := by first | (rw [hji25] at H; exact H) | (simp only [hji25] at H ⊢; exact H)
        have hji25w : (IntKind.i64.wrap (a1 - 1)) = ji25 := (i64_w _).trans hji25
        by_cases c26 : 0 ≤ (ji25)
        ·
         rw [if_pos c26] at H
         have c26b0 : decide (0 ≤ (ji25)) = true := decide_eq_true c26
         clear c26
         by_cases c27 : (ji25) < (t539.length : Int)
         ·
          rw [if_pos c27] at H
          have c27b0 : decide ((ji25) < (t539.length : Int)) = true := decide_eq_true c27
          clear c27
          have H' := Aside0.mk H
          clear H
          obtain ⟨Ao28, co28, eo28⟩ := Kd.R_slice HO_10.out
          subst eo28
          have p543 : 0 ≤ ((ji25) : Int) := of_decide_eq_true (by first | (with_reducible assumption) | assumption)
          have q543 : (ji25) < (t539.length : Int) := of_decide_eq_true (by first | (with_reducible assumption) | assumption)
          obtain ⟨ad543, e543, hx543_0, hx543_1⟩ := at_T24 (Kd.R_reads' HO_10.out).2.2 (ji25) p543 q543
          cases e543
          replace p543 := eq_true p543
          replace q543 := eq_true q543
          have hnb29 := NB542_534.out
          have hnc29 := NB534_542.out
          have hcz30_0 : wc.cell? ⟨gb542, 0, none⟩ = some (.int .i64 0) := (blk_cell BK542.out 0).trans rfl
          have hcz30_1 : wc.cell? ⟨gb542, 1, none⟩ = some (.int .i64 0) := (blk_cell BK542.out 1).trans rfl
          have hfz30_0 := blk_frozen BK542.out 0
          have hfz30_1 := blk_frozen BK542.out 1
          go_wp2
          go_meet
          case rel => exact ⟨_, (0), ((rd_T24 t539 (ji25)).f0), ((rd_T24 t539 (ji25)).f1), (by first | rfl | (simp; done) | (simp [*]; done)), H', ⟨by have := HJ19.out; first | omega | exact Nat.le_refl _⟩, ⟨by (with_reducible repeat (first | apply Kd.R_alloc | apply Kd.R_drewN | apply Kd.R_drew)); exact Kd.R_mono (Kd.R_far (p := ⟨gb542, 1, none⟩) (Kd.R_far (p := ⟨gb542, 0, none⟩) (Kd.R_mono HO_10.out (fun k_ hk => (⟨hk, hk.2⟩ : _ ∧ k_ ≠ gb542))) (fun _ hk => hk.2) (.int .i64 ((rd_T24 t539 (ji25)).f0))) (fun _ hk => hk.2) (.int .i64 ((rd_T24 t539 (ji25)).f1))) (fun _ hk => ⟨hk.1.1, hk.1.2⟩)⟩, ⟨by (with_reducible repeat (first | refine blk_drewN ?_ _ | refine blk_drew ?_ | refine blk_alloc ?_ _)); refine blk_far ?_ NB534_542.out _; (with_reducible repeat (first | refine blk_drewN ?_ _ | refine blk_drew ?_ | refine blk_alloc ?_ _)); refine blk_far ?_ NB534_542.out _; (with_reducible repeat (first | refine blk_drewN ?_ _ | refine blk_drew ?_ | refine blk_alloc ?_ _)); exact BK534.out⟩, ⟨by (with_reducible repeat (first | refine blk_drewN ?_ _ | refine blk_drew ?_ | refine blk_alloc ?_ _)); refine blk_put (cs := #[.int .i64 ((rd_T24 t539 (ji25)).f0), .int .i64 0]) ?_ 1 _ rfl; (with_reducible repeat (first | refine blk_drewN ?_ _ | refine blk_drew ?_ | refine blk_alloc ?_ _)); refine blk_put (cs := #[.int .i64 0, .int .i64 0]) ?_ 0 _ rfl; (with_reducible repeat (first | refine blk_drewN ?_ _ | refine blk_drew ?_ | refine blk_alloc ?_ _)); exact BK542.out⟩, ⟨by repeat (first | (with_reducible first | exact HB.out | apply below_alloc | apply pw_below_drewN | apply below_drew1 | refine below_set ?_ GE534.out | refine below_set ?_ GE542.out) | exact HB.out)⟩⟩
         ·
          rw [if_neg c27] at H
          exact absurd H (by simp)
        ·
         rw [if_neg c26] at H
         exact absurd H (by simp)
       ·
        rw [if_neg c24] at H
        have c24b0 : decide (0 < a1) = false := decide_eq_false c24
        clear c24
        have H' := Aside0.mk H
        clear H
        go_wp2
        go_meet
        case rel => exact ⟨_, (0), (0), (0), (by first | rfl | (simp; done) | (simp [*]; done)), H', ⟨by have := HJ19.out; first | omega | exact Nat.le_refl _⟩, ⟨by (with_reducible repeat (first | apply Kd.R_alloc | apply Kd.R_drewN | apply Kd.R_drew)); exact HO_10.out⟩, ⟨by (with_reducible repeat (first | refine blk_drewN ?_ _ | refine blk_drew ?_ | refine blk_alloc ?_ _)); exact BK534.out⟩, ⟨by (with_reducible repeat (first | refine blk_drewN ?_ _ | refine blk_drew ?_ | refine blk_alloc ?_ _)); exact BK542.out⟩, ⟨by repeat (first | (with_reducible first | exact HB.out | apply below_alloc | apply pw_below_drewN | apply below_drew1 | refine below_set ?_ GE534.out | refine below_set ?_ GE542.out) | exact HB.out)⟩⟩
   case rest =>
    clear HC11
    try clear c1
    try clear c2
    try clear p2
    try clear c3
    try clear c4
    try clear c5
    try clear c5b0
    try clear c5b1
    try clear p5
    try clear q5
    try clear hx5
    try clear p6
    try clear c9
    try clear c14
    try clear c18
    try clear c21
    try clear c21b0
    try clear c23
    try clear c24
    try clear c24b0
    try clear c26
    try clear c26b0
    try clear c27
    try clear c27b0
    try clear c29
    try clear hcz13_0
    try clear hcz13_1
    try clear hcz16_0
    try clear hcz16_1
    try clear hcz19_0
    try clear hcz19_1
    try clear hcz30_0
    try clear hcz30_1
    try clear hfz13_0
    try clear hfz13_1
    try clear hfz16_0
    try clear hfz16_1
    try clear hfz19_0
    try clear hfz19_1
    try clear hfz30_0
    try clear hfz30_1
    try clear hx543_0
    try clear hx543_1
    try clear p2
    try clear p543
    try clear q543
    obtain ⟨kq, x12_10, x543000_10, x543001_10, rfl, HA, HJ10, HO_10, BK534, BK542, HB⟩ := hcut
    cases kq with
    | zero => exact absurd HA.out (by simp [redpencillaw12_IndexParts.j1])
    | succ kj10 =>
     have H := HA.out
     clear HA
     simp only [redpencillaw12_IndexParts.j1] at H
     replace H := Option.bind_eq_some_iff.mp H
     obtain ⟨t544, A310, H⟩ := H
     replace H : (if t544 = true then (if a2 < 0 then (redpencillaw12_IndexParts.j2 kj10 l0 a2 a3 t539 true) else (if a3 < a2 then (redpencillaw12_IndexParts.j2 kj10 l0 a2 a3 t539 true) else (redpencillaw12_IndexParts.j2 kj10 l0 a2 a3 t539 (decide (a3 > (t539.length : Int)))))) else (some false)) = some r := H
     have A31 := Aside0.mk A310
     clear A310
     by_cases c32 : t544 = true
     ·
      subst c32
      have H1 : (if a2 < 0 then (redpencillaw12_IndexParts.j2 kj10 l0 a2 a3 t539 true) else (if a3 < a2 then (redpencillaw12_IndexParts.j2 kj10 l0 a2 a3 t539 true) else (redpencillaw12_IndexParts.j2 kj10 l0 a2 a3 t539 (decide (a3 > (t539.length : Int)))))) = some r := by rw [if_pos rfl] at H; exact H
      clear H
      have H := H1
      clear H1
      have HC33 := Aside0.mk H
      clear H
      have hnb34 := NB542_534.out
      have hnc34 := NB534_542.out
      have hcz35_0 : wc.cell? ⟨gb542, 0, none⟩ = some (.int .i64 x543000_10) := (blk_cell BK542.out 0).trans rfl
      have hcz35_1 : wc.cell? ⟨gb542, 1, none⟩ = some (.int .i64 x543001_10) := (blk_cell BK542.out 1).trans rfl
      have hfz35_0 := blk_frozen BK542.out 0
      have hfz35_1 := blk_frozen BK542.out 1
      go_upto_region 14 with (first | ((with_reducible refine gate_callee (f := 46) rfl ?_); refine goesL_ (some 58) rfl rfl Tryz.func46 (by kernel_rfl) rfl #[.slice A0 l0.length c0, .int .i64 a1, .agg #[.int .i64 x543000_10, .int .i64 x543001_10], .int .i64 x12_10] rfl (by (try simp only [List.map_toArray, List.map_cons, List.map_nil]); first | done | rfl | (simp only [List.length_drop, List.length_take]; rfl)) ?_; (with_reducible refine (redpencillaw12_left.calls kj10 _ _ l0 a1 x543000_10 x543001_10 x12_10 true _ ?side1 ?side2 A31.out).mono ?_); (case side1 => repeat (first | exact (Kd.C_below HR0.out HB.out) | (with_reducible refine Kd.C_alloc ?_ _) | (with_reducible refine Kd.C_drewN ?_ _) | (with_reducible refine Kd.C_drew ?_))); (case side2 => exact HC0.out); rintro e w36 ⟨rfl, hb⟩; refine ⟨_, rfl, ?_⟩; have n0_ := Aside0.mk (Kd.R_below (by (with_reducible repeat (first | apply Kd.R_alloc | apply Kd.R_drewN | apply Kd.R_drew)); exact HO_10.out) hb); have n1_ := Aside0.mk (blk_below (g := gb534) (o := .cells #[.int .i64 0, .int .i64 0] 24 (0, 0)) (by (with_reducible repeat (first | refine blk_drewN ?_ _ | refine blk_drew ?_ | refine blk_alloc ?_ _)); exact BK534.out) hb); have n2_ := Aside0.mk (blk_below (g := gb542) (o := .cells #[.int .i64 x543000_10, .int .i64 x543001_10] 24 (0, 0)) (by (with_reducible repeat (first | refine blk_drewN ?_ _ | refine blk_drew ?_ | refine blk_alloc ?_ _)); exact BK542.out) hb); have n3_ := Aside0.mk (below_step (by repeat (first | (with_reducible first | exact HB.out | apply below_alloc | apply pw_below_drewN | apply below_drew1 | refine below_set ?_ GE534.out | refine below_set ?_ GE542.out) | exact HB.out)) hb); clear HO_10; clear BK534; clear BK542; clear HB; have HO_10 := n0_; have BK534 := n1_; have BK542 := n2_; have HB := n3_; clear n0_ n1_ n2_ n3_; (try clear hb); (try clear hb2); (try clear hk); (try clear hi)))
      (try simp only [Act.put, List.setIfInBounds_toArray, List.set_cons_zero, List.set_cons_succ])
      go_cut [72] (fun v72 wc => ∃ (kq : Nat) (x72_32 : Bool), v72 = .bool x72_32 ∧ Aside0 (redpencillaw12_IndexParts.j2 kq l0 a2 a3 t539 x72_32 = some r) ∧ Aside0 (kq ≤ kj10) ∧ Aside0 (Kd.R k24 24 wc w.heap.size (fun k_ => k_ ≠ gb534 ∧ k_ ≠ gb542) v540 t539) ∧ Aside0 (wc.heap[gb534]? = some (.cells #[.int .i64 0, .int .i64 0] 24 (0, 0))) ∧ Aside0 (wc.heap[gb542]? = some (.cells #[.int .i64 x543000_10, .int .i64 x543001_10] 24 (0, 0))) ∧ Aside0 (Below w.heap.size w wc))
      case first =>
       have H := HC33.out
       clear HC33
       by_cases c37 : a2 < 0
       ·
        rw [if_pos c37] at H
        have c37b0 : decide (a2 < 0) = true := decide_eq_true c37
        clear c37
        (first | rw [c37b0] | (simp only [i64_w, i32_w]; rw [c37b0]) | rw [c37b1] | skip)
        have H' := Aside0.mk H
        clear H
        go_wp2
        go_meet
        case rel => exact ⟨_, (true), (by first | rfl | (simp; done) | (simp [*]; done)), H', ⟨by have := HJ10.out; first | omega | exact Nat.le_refl _⟩, ⟨by (with_reducible repeat (first | apply Kd.R_alloc | apply Kd.R_drewN | apply Kd.R_drew)); exact HO_10.out⟩, ⟨by (with_reducible repeat (first | refine blk_drewN ?_ _ | refine blk_drew ?_ | refine blk_alloc ?_ _)); exact BK534.out⟩, ⟨by (with_reducible repeat (first | refine blk_drewN ?_ _ | refine blk_drew ?_ | refine blk_alloc ?_ _)); exact BK542.out⟩, ⟨by repeat (first | (with_reducible first | exact HB.out | apply below_alloc | apply pw_below_drewN | apply below_drew1 | refine below_set ?_ GE534.out | refine below_set ?_ GE542.out) | exact HB.out)⟩⟩
       ·
        rw [if_neg c37] at H
        have c37b0 : decide (a2 < 0) = false := decide_eq_false c37
        clear c37
        (first | rw [c37b0] | (simp only [i64_w, i32_w]; rw [c37b0]) | rw [c37b1] | skip)
        by_cases c38 : a3 < a2
        ·
         rw [if_pos c38] at H
         have c38b0 : decide (a3 < a2) = true := decide_eq_true c38
         clear c38
         have H' := Aside0.mk H
         clear H
         go_wp2
         go_meet
         case rel => exact ⟨_, (true), (by first | rfl | (simp; done) | (simp [*]; done)), H', ⟨by have := HJ10.out; first | omega | exact Nat.le_refl _⟩, ⟨by (with_reducible repeat (first | apply Kd.R_alloc | apply Kd.R_drewN | apply Kd.R_drew)); exact HO_10.out⟩, ⟨by (with_reducible repeat (first | refine blk_drewN ?_ _ | refine blk_drew ?_ | refine blk_alloc ?_ _)); exact BK534.out⟩, ⟨by (with_reducible repeat (first | refine blk_drewN ?_ _ | refine blk_drew ?_ | refine blk_alloc ?_ _)); exact BK542.out⟩, ⟨by repeat (first | (with_reducible first | exact HB.out | apply below_alloc | apply pw_below_drewN | apply below_drew1 | refine below_set ?_ GE534.out | refine below_set ?_ GE542.out) | exact HB.out)⟩⟩
        ·
         rw [if_neg c38] at H
         have c38b0 : decide (a3 < a2) = false := decide_eq_false c38
         clear c38
         have H' := Aside0.mk H
         clear H
         obtain ⟨Ao39, co39, eo39⟩ := Kd.R_slice HO_10.out
         subst eo39
         go_wp2
         go_meet
         case rel => exact ⟨_, (decide (a3 > (t539.length : Int))), (by first | rfl | (simp; done) | (simp [*]; done)), H', ⟨by have := HJ10.out; first | omega | exact Nat.le_refl _⟩, ⟨by (with_reducible repeat (first | apply Kd.R_alloc | apply Kd.R_drewN | apply Kd.R_drew)); exact HO_10.out⟩, ⟨by (with_reducible repeat (first | refine blk_drewN ?_ _ | refine blk_drew ?_ | refine blk_alloc ?_ _)); exact BK534.out⟩, ⟨by (with_reducible repeat (first | refine blk_drewN ?_ _ | refine blk_drew ?_ | refine blk_alloc ?_ _)); exact BK542.out⟩, ⟨by repeat (first | (with_reducible first | exact HB.out | apply below_alloc | apply pw_below_drewN | apply below_drew1 | refine below_set ?_ GE534.out | refine below_set ?_ GE542.out) | exact HB.out)⟩⟩
      case rest =>
       clear HC33
       try clear c1
       try clear c2
       try clear p2
       try clear c3
       try clear c4
       try clear c5
       try clear c5b0
       try clear c5b1
       try clear p5
       try clear q5
       try clear hx5
       try clear p6
       try clear c9
       try clear c14
       try clear c18
       try clear c21
       try clear c21b0
       try clear c23
       try clear c24
       try clear c24b0
       try clear c26
       try clear c26b0
       try clear c27
       try clear c27b0
       try clear c29
       try clear c32
       try clear c34
       try clear c37
       try clear c37b0
       try clear c38
       try clear c38b0
       try clear hcz13_0
       try clear hcz13_1
       try clear hcz16_0
       try clear hcz16_1
       try clear hcz19_0
       try clear hcz19_1
       try clear hcz30_0
       try clear hcz30_1
       try clear hcz35_0
       try clear hcz35_1
       try clear hfz13_0
       try clear hfz13_1
       try clear hfz16_0
       try clear hfz16_1
       try clear hfz19_0
       try clear hfz19_1
       try clear hfz30_0
       try clear hfz30_1
       try clear hfz35_0
       try clear hfz35_1
       try clear hx543_0
       try clear hx543_1
       try clear p2
       try clear p5
       try clear p543
       try clear p6
       try clear q5
       try clear q543
       obtain ⟨kq, x72_32, rfl, HA, HJ32, HO_10, BK534, BK542, HB⟩ := hcut
       cases kq with
       | zero => exact absurd HA.out (by simp [redpencillaw12_IndexParts.j2])
       | succ kj32 =>
        have H := HA.out
        clear HA
        simp only [redpencillaw12_IndexParts.j2] at H
        by_cases c40 : x72_32 = true
        ·
         subst c40
         have H1 : ((redpencillaw12_dots.f kj32 l0 a2 a3 ([] : List (S24)) 3).bind fun t545 => (if t545 = true then ((redpencillaw12_known.f).bind fun t546 => (some t546)) else (some false))) = some r := by rw [if_pos rfl] at H; exact H
         clear H
         have H := H1
         clear H1
         replace H := Option.bind_eq_some_iff.mp H
         obtain ⟨t545, A410, H⟩ := H
         replace H : (if t545 = true then ((redpencillaw12_known.f).bind fun t546 => (some t546)) else (some false)) = some r := H
         have A41 := Aside0.mk A410
         clear A410
         by_cases c42 : t545 = true
         ·
          subst c42
          have H1 : ((redpencillaw12_known.f).bind fun t546 => (some t546)) = some r := by rw [if_pos rfl] at H; exact H
          clear H
          have H := H1
          clear H1
          replace H := Option.bind_eq_some_iff.mp H
          obtain ⟨t546, A430, H⟩ := H
          replace H : (some t546) = some r := H
          have A43 := Aside0.mk A430
          clear A430
          obtain rfl := Option.some.inj H
          go_wp2_with (first | ((with_reducible refine gate_callee (f := 47) rfl ?_); refine goesL_ (some 76) rfl rfl Tryz.func47 (by kernel_rfl) rfl #[.slice A0 l0.length c0, .int .i64 a2, .int .i64 a3, .slice none 0 0, .int .i64 3] rfl (by (try simp only [List.map_toArray, List.map_cons, List.map_nil]); first | done | rfl | (simp only [List.length_drop, List.length_take]; rfl)) ?_; (refine (redpencillaw12_dots.calls kj32 _ _ l0 a2 a3 _ _ ([] : List (S24)) 3 true _ ?side1 ?side2 ?side3 ?side4 A41.out).mono ?_); (case side1 => repeat (first | exact (Kd.C_below HR0.out HB.out) | (with_reducible refine Kd.C_alloc ?_ _) | (with_reducible refine Kd.C_drewN ?_ _) | (with_reducible refine Kd.C_drew ?_))); (case side2 => exact HC0.out); (case side3 => exact Kd.C_nil _ _); (case side4 => exact Nat.le_refl _); rintro e w44 ⟨rfl, hb⟩; refine ⟨_, rfl, ?_⟩; have n0_ := Aside0.mk (Kd.R_below (by (with_reducible repeat (first | apply Kd.R_alloc | apply Kd.R_drewN | apply Kd.R_drew)); exact HO_10.out) hb); have n1_ := Aside0.mk (blk_below (g := gb534) (o := .cells #[.int .i64 0, .int .i64 0] 24 (0, 0)) (by (with_reducible repeat (first | refine blk_drewN ?_ _ | refine blk_drew ?_ | refine blk_alloc ?_ _)); exact BK534.out) hb); have n2_ := Aside0.mk (blk_below (g := gb542) (o := .cells #[.int .i64 x543000_10, .int .i64 x543001_10] 24 (0, 0)) (by (with_reducible repeat (first | refine blk_drewN ?_ _ | refine blk_drew ?_ | refine blk_alloc ?_ _)); exact BK542.out) hb); have n3_ := Aside0.mk (below_step (by repeat (first | (with_reducible first | exact HB.out | apply below_alloc | apply pw_below_drewN | apply below_drew1 | refine below_set ?_ GE534.out | refine below_set ?_ GE542.out) | exact HB.out)) hb); clear HO_10; clear BK534; clear BK542; clear HB; have HO_10 := n0_; have BK534 := n1_; have BK542 := n2_; have HB := n3_; clear n0_ n1_ n2_ n3_; (try clear hb); (try clear hb2); (try clear hk); (try clear hi)) | (go_at_call 34; (with_reducible refine (redpencillaw12_known.calls  t546 _ A43.out).mono ?_); rintro e w45 ⟨rfl, hb⟩; have n0_ := Aside0.mk (Kd.R_below (by (with_reducible repeat (first | apply Kd.R_alloc | apply Kd.R_drewN | apply Kd.R_drew)); exact HO_10.out) hb); have n1_ := Aside0.mk (blk_below (g := gb534) (o := .cells #[.int .i64 0, .int .i64 0] 24 (0, 0)) (by (with_reducible repeat (first | refine blk_drewN ?_ _ | refine blk_drew ?_ | refine blk_alloc ?_ _)); exact BK534.out) hb); have n2_ := Aside0.mk (blk_below (g := gb542) (o := .cells #[.int .i64 x543000_10, .int .i64 x543001_10] 24 (0, 0)) (by (with_reducible repeat (first | refine blk_drewN ?_ _ | refine blk_drew ?_ | refine blk_alloc ?_ _)); exact BK542.out) hb); have n3_ := Aside0.mk (below_step (by repeat (first | (with_reducible first | exact HB.out | apply below_alloc | apply pw_below_drewN | apply below_drew1 | refine below_set ?_ GE534.out | refine below_set ?_ GE542.out) | exact HB.out)) hb); clear HO_10; clear BK534; clear BK542; clear HB; have HO_10 := n0_; have BK534 := n1_; have BK542 := n2_; have HB := n3_; clear n0_ n1_ n2_ n3_; (try clear hb); (try clear hb2); (try clear hk); (try clear hi)))
          go_ret
          exact ⟨by first | rfl | (simp [errW_none, errW_some] <;> rfl) | (simp [*, errW_none, errW_some] <;> rfl), by repeat (first | (with_reducible first | exact HB.out | apply below_alloc | apply pw_below_drewN | apply below_drew1 | refine below_set ?_ GE534.out | refine below_set ?_ GE542.out) | exact HB.out)⟩
         ·
          replace c42 := Bool.eq_false_iff.mpr c42
          subst c42
          have H1 : (some false) = some r := by rw [if_neg (show ¬ (false = true) by decide)] at H; exact H
          clear H
          have H := H1
          clear H1
          obtain rfl := Option.some.inj H
          go_wp2_with (first | ((with_reducible refine gate_callee (f := 47) rfl ?_); refine goesL_ (some 76) rfl rfl Tryz.func47 (by kernel_rfl) rfl #[.slice A0 l0.length c0, .int .i64 a2, .int .i64 a3, .slice none 0 0, .int .i64 3] rfl (by (try simp only [List.map_toArray, List.map_cons, List.map_nil]); first | done | rfl | (simp only [List.length_drop, List.length_take]; rfl)) ?_; (refine (redpencillaw12_dots.calls kj32 _ _ l0 a2 a3 _ _ ([] : List (S24)) 3 false _ ?side1 ?side2 ?side3 ?side4 A41.out).mono ?_); (case side1 => repeat (first | exact (Kd.C_below HR0.out HB.out) | (with_reducible refine Kd.C_alloc ?_ _) | (with_reducible refine Kd.C_drewN ?_ _) | (with_reducible refine Kd.C_drew ?_))); (case side2 => exact HC0.out); (case side3 => exact Kd.C_nil _ _); (case side4 => exact Nat.le_refl _); rintro e w46 ⟨rfl, hb⟩; refine ⟨_, rfl, ?_⟩; have n0_ := Aside0.mk (Kd.R_below (by (with_reducible repeat (first | apply Kd.R_alloc | apply Kd.R_drewN | apply Kd.R_drew)); exact HO_10.out) hb); have n1_ := Aside0.mk (blk_below (g := gb534) (o := .cells #[.int .i64 0, .int .i64 0] 24 (0, 0)) (by (with_reducible repeat (first | refine blk_drewN ?_ _ | refine blk_drew ?_ | refine blk_alloc ?_ _)); exact BK534.out) hb); have n2_ := Aside0.mk (blk_below (g := gb542) (o := .cells #[.int .i64 x543000_10, .int .i64 x543001_10] 24 (0, 0)) (by (with_reducible repeat (first | refine blk_drewN ?_ _ | refine blk_drew ?_ | refine blk_alloc ?_ _)); exact BK542.out) hb); have n3_ := Aside0.mk (below_step (by repeat (first | (with_reducible first | exact HB.out | apply below_alloc | apply pw_below_drewN | apply below_drew1 | refine below_set ?_ GE534.out | refine below_set ?_ GE542.out) | exact HB.out)) hb); clear HO_10; clear BK534; clear BK542; clear HB; have HO_10 := n0_; have BK534 := n1_; have BK542 := n2_; have HB := n3_; clear n0_ n1_ n2_ n3_; (try clear hb); (try clear hb2); (try clear hk); (try clear hi)))
          go_ret
          exact ⟨by first | rfl | (simp [errW_none, errW_some] <;> rfl) | (simp [*, errW_none, errW_some] <;> rfl), by repeat (first | (with_reducible first | exact HB.out | apply below_alloc | apply pw_below_drewN | apply below_drew1 | refine below_set ?_ GE534.out | refine below_set ?_ GE542.out) | exact HB.out)⟩
        ·
         replace c40 := Bool.eq_false_iff.mpr c40
         subst c40
         have H1 : (if 0 ≤ a2 then (if a2 ≤ a3 then (if a3 ≤ (t539.length : Int) then ((redpencillaw12_dots.f kj32 l0 a2 a3 ((t539.take (a3 : Int).toNat).drop (a2 : Int).toNat) 0).bind fun t551 => (if t551 = true then ((redpencillaw12_known.f).bind fun t552 => (some t552)) else (some false))) else (none)) else (none)) else (none)) = some r := by rw [if_neg (show ¬ (false = true) by decide)] at H; exact H
         clear H
         have H := H1
         clear H1
         by_cases c47 : 0 ≤ a2
         ·
          rw [if_pos c47] at H
          have c47b0 := eq_true c47
          have c47b1 : decide (0 ≤ a2) = true := decide_eq_true c47
          clear c47
          by_cases c48 : a2 ≤ a3
          ·
           rw [if_pos c48] at H
           have c48b0 := eq_true c48
           have c48b1 : decide (a2 ≤ a3) = true := decide_eq_true c48
           clear c48
           by_cases c49 : a3 ≤ (t539.length : Int)
           ·
            rw [if_pos c49] at H
            have c49b0 := eq_true c49
            have c49b1 : decide (a3 ≤ (t539.length : Int)) = true := decide_eq_true c49
            clear c49
            obtain ⟨y547, hy547⟩ : ∃ y_ : List (S24), y_ = ((t539.take (a3 : Int).toNat).drop (a2 : Int).toNat) := ⟨_, rfl⟩
            replace H : ((redpencillaw12_dots.f kj32 l0 a2 a3 y547 0).bind fun t551 => (if t551 = true then ((redpencillaw12_known.f).bind fun t552 => (some t552)) else (some false))) = some r := by first | (rw [hy547]; with_reducible exact H) | (have H2_ := (Option.bind_some _ _).symm.trans H; rw [hy547]; with_reducible exact H2_) | (have H2_ := (Option.bind_some _ _).symm.trans H; with_reducible exact H2_) | with_reducible exact H | (rw [hy547]; exact H) | exact H
            have Ny547 := Aside0.mk hy547
            clear hy547
            replace H := Option.bind_eq_some_iff.mp H
            obtain ⟨t551, A500, H⟩ := H
            replace H : (if t551 = true then ((redpencillaw12_known.f).bind fun t552 => (some t552)) else (some false)) = some r := H
            have A50 := Aside0.mk A500
            clear A500
            by_cases c51 : t551 = true
            ·
             subst c51
             have H1 : ((redpencillaw12_known.f).bind fun t552 => (some t552)) = some r := by rw [if_pos rfl] at H; exact H
             clear H
             have H := H1
             clear H1
             replace H := Option.bind_eq_some_iff.mp H
             obtain ⟨t552, A520, H⟩ := H
             replace H : (some t552) = some r := H
             have A52 := Aside0.mk A520
             clear A520
             obtain rfl := Option.some.inj H
             obtain ⟨Ao54, co54, eo54⟩ := Kd.R_slice HO_10.out
             subst eo54
             have q53 : (a3 : Int) ≤ ((t539.length : Int) : Int) := of_decide_eq_true (by first | (with_reducible assumption) | assumption)
             obtain ⟨i053, hi053, _, hsz53, _⟩ := info_parts info24
             have hroom53 : t539.length ≤ co54 := (Kd.R_reads' HO_10.out).2.1
             have hC53 : Kd.C k24 _ Ao54 t539.length t539 := (Kd.R_reads' HO_10.out).2.2
             have ql53 : (a2 : Int) ≤ (a3 : Int) := of_decide_eq_true (by first | (with_reducible assumption) | assumption)
             have q053 : (0 : Int) ≤ (a2 : Int) := of_decide_eq_true (by first | (with_reducible assumption) | assumption)
             have hcut53 := cut_mid (P := Tryz.prog) 41 24 .i64 .i64 Tryz.underlying41 hi053 2 hsz53 Ao54 t539.length co54 a2 a3 q053 ql53 q53 hroom53
             have hr53 := Kd.C_mid (lo := (a2 : Int).toNat) (hi := (a3 : Int).toNat) (c := co54) hC53 (by omega) (by omega) hroom53
             obtain ⟨A53, hA53⟩ : ∃ A1, A1 = (if co54 = (a2 : Int).toNat then Ao54 else (Ao54 : Option Addr).map (·.add ((a2 : Int).toNat * 2))) := ⟨_, rfl⟩
             obtain ⟨c53, hc53⟩ : ∃ c1, c1 = co54 - (a2 : Int).toNat := ⟨_, rfl⟩
             have hy53 : y547.length = (a3 : Int).toNat - (a2 : Int).toNat := (by rw [Ny547.out, List.length_drop, List.length_take] <;> omega)
             rw [show ((t539).take (a3 : Int).toNat).drop (a2 : Int).toNat = y547 from Ny547.out.symm] at hr53
             replace hr53 : Kd.C k24 _ A53 y547.length y547 := (by rw [hA53]; exact hr53)
             rw [← hy53, ← hA53, ← hc53] at hcut53
             have HR550 := Aside0.mk hr53
             have HC550 := Aside0.mk (show y547.length ≤ c53 from by rw [hy53, hc53]; exact Nat.sub_le_sub_right (Nat.le_trans (by omega) hroom53) _)
             clear hr53 hC53 hroom53 hi053 hsz53 hc53
             have KY53 := Aside0.mk hy53
             have KA53 := Aside0.mk hA53
             clear hy53 hA53
             have KL53 := Aside0.mk (show (a3 : Int).toNat ≤ t539.length from by omega)
             have KM53 := Aside0.mk (show (a2 : Int).toNat ≤ (a3 : Int).toNat from by omega)
             replace q53 := eq_true q53
             go_wp2_with (first | ((with_reducible refine gate_callee (f := 47) rfl ?_); refine goesL_ (some 87) rfl rfl Tryz.func47 (by kernel_rfl) rfl #[.slice A0 l0.length c0, .int .i64 a2, .int .i64 a3, .slice A53 y547.length c53, .int .i64 0] rfl (by (try simp only [List.map_toArray, List.map_cons, List.map_nil]); first | done | rfl | (simp only [List.length_drop, List.length_take]; rfl)) ?_; (with_reducible refine (redpencillaw12_dots.calls kj32 _ _ l0 a2 a3 _ _ y547 0 true _ ?side1 ?side2 ?side3 ?side4 A50.out).mono ?_); (case side1 => repeat (first | exact (Kd.C_below HR0.out HB.out) | (with_reducible refine Kd.C_alloc ?_ _) | (with_reducible refine Kd.C_drewN ?_ _) | (with_reducible refine Kd.C_drew ?_))); (case side2 => exact HC0.out); (case side3 => repeat (first | exact (by repeat (first | (with_reducible exact HR550.out) | (with_reducible refine Kd.C_alloc ?_ _) | (with_reducible refine Kd.C_drewN ?_ _) | (with_reducible refine Kd.C_drew ?_) | exact HR550.out)) | (with_reducible refine Kd.C_alloc ?_ _) | (with_reducible refine Kd.C_drewN ?_ _) | (with_reducible refine Kd.C_drew ?_))); (case side4 => exact HC550.out); rintro e w55 ⟨rfl, hb⟩; refine ⟨_, rfl, ?_⟩; have n0_ := Aside0.mk (Kd.R_below (by (with_reducible repeat (first | apply Kd.R_alloc | apply Kd.R_drewN | apply Kd.R_drew)); exact HO_10.out) hb); have n1_ := Aside0.mk (blk_below (g := gb534) (o := .cells #[.int .i64 0, .int .i64 0] 24 (0, 0)) (by (with_reducible repeat (first | refine blk_drewN ?_ _ | refine blk_drew ?_ | refine blk_alloc ?_ _)); exact BK534.out) hb); have n2_ := Aside0.mk (blk_below (g := gb542) (o := .cells #[.int .i64 x543000_10, .int .i64 x543001_10] 24 (0, 0)) (by (with_reducible repeat (first | refine blk_drewN ?_ _ | refine blk_drew ?_ | refine blk_alloc ?_ _)); exact BK542.out) hb); have n3_ := Aside0.mk (Kd.C_below (by repeat (first | (with_reducible exact HR550.out) | (with_reducible refine Kd.C_alloc ?_ _) | (with_reducible refine Kd.C_drewN ?_ _) | (with_reducible refine Kd.C_drew ?_) | exact HR550.out)) hb); have n4_ := Aside0.mk (below_step (by repeat (first | (with_reducible first | exact HB.out | apply below_alloc | apply pw_below_drewN | apply below_drew1 | refine below_set ?_ GE534.out | refine below_set ?_ GE542.out) | exact HB.out)) hb); clear HO_10; clear BK534; clear BK542; clear HR550; clear HB; have HO_10 := n0_; have BK534 := n1_; have BK542 := n2_; have HR550 := n3_; have HB := n4_; clear n0_ n1_ n2_ n3_ n4_; (try clear hb); (try clear hb2); (try clear hk); (try clear hi)) | (go_at_call 34; (with_reducible refine (redpencillaw12_known.calls  t552 _ A52.out).mono ?_); rintro e w56 ⟨rfl, hb⟩; have n0_ := Aside0.mk (Kd.R_below (by (with_reducible repeat (first | apply Kd.R_alloc | apply Kd.R_drewN | apply Kd.R_drew)); exact HO_10.out) hb); have n1_ := Aside0.mk (blk_below (g := gb534) (o := .cells #[.int .i64 0, .int .i64 0] 24 (0, 0)) (by (with_reducible repeat (first | refine blk_drewN ?_ _ | refine blk_drew ?_ | refine blk_alloc ?_ _)); exact BK534.out) hb); have n2_ := Aside0.mk (blk_below (g := gb542) (o := .cells #[.int .i64 x543000_10, .int .i64 x543001_10] 24 (0, 0)) (by (with_reducible repeat (first | refine blk_drewN ?_ _ | refine blk_drew ?_ | refine blk_alloc ?_ _)); exact BK542.out) hb); have n3_ := Aside0.mk (Kd.C_below (by repeat (first | (with_reducible exact HR550.out) | (with_reducible refine Kd.C_alloc ?_ _) | (with_reducible refine Kd.C_drewN ?_ _) | (with_reducible refine Kd.C_drew ?_) | exact HR550.out)) hb); have n4_ := Aside0.mk (below_step (by repeat (first | (with_reducible first | exact HB.out | apply below_alloc | apply pw_below_drewN | apply below_drew1 | refine below_set ?_ GE534.out | refine below_set ?_ GE542.out) | exact HB.out)) hb); clear HO_10; clear BK534; clear BK542; clear HR550; clear HB; have HO_10 := n0_; have BK534 := n1_; have BK542 := n2_; have HR550 := n3_; have HB := n4_; clear n0_ n1_ n2_ n3_ n4_; (try clear hb); (try clear hb2); (try clear hk); (try clear hi)))
             go_ret
             exact ⟨by first | rfl | (simp [errW_none, errW_some] <;> rfl) | (simp [*, errW_none, errW_some] <;> rfl), by repeat (first | (with_reducible first | exact HB.out | apply below_alloc | apply pw_below_drewN | apply below_drew1 | refine below_set ?_ GE534.out | refine below_set ?_ GE542.out) | exact HB.out)⟩
            ·
             replace c51 := Bool.eq_false_iff.mpr c51
             subst c51
             have H1 : (some false) = some r := by rw [if_neg (show ¬ (false = true) by decide)] at H; exact H
             clear H
             have H := H1
             clear H1
             obtain rfl := Option.some.inj H
             obtain ⟨Ao58, co58, eo58⟩ := Kd.R_slice HO_10.out
             subst eo58
             have q57 : (a3 : Int) ≤ ((t539.length : Int) : Int) := of_decide_eq_true (by first | (with_reducible assumption) | assumption)
             obtain ⟨i057, hi057, _, hsz57, _⟩ := info_parts info24
             have hroom57 : t539.length ≤ co58 := (Kd.R_reads' HO_10.out).2.1
             have hC57 : Kd.C k24 _ Ao58 t539.length t539 := (Kd.R_reads' HO_10.out).2.2
             have ql57 : (a2 : Int) ≤ (a3 : Int) := of_decide_eq_true (by first | (with_reducible assumption) | assumption)
             have q057 : (0 : Int) ≤ (a2 : Int) := of_decide_eq_true (by first | (with_reducible assumption) | assumption)
             have hcut57 := cut_mid (P := Tryz.prog) 41 24 .i64 .i64 Tryz.underlying41 hi057 2 hsz57 Ao58 t539.length co58 a2 a3 q057 ql57 q57 hroom57
             have hr57 := Kd.C_mid (lo := (a2 : Int).toNat) (hi := (a3 : Int).toNat) (c := co58) hC57 (by omega) (by omega) hroom57
             obtain ⟨A57, hA57⟩ : ∃ A1, A1 = (if co58 = (a2 : Int).toNat then Ao58 else (Ao58 : Option Addr).map (·.add ((a2 : Int).toNat * 2))) := ⟨_, rfl⟩
             obtain ⟨c57, hc57⟩ : ∃ c1, c1 = co58 - (a2 : Int).toNat := ⟨_, rfl⟩
             have hy57 : y547.length = (a3 : Int).toNat - (a2 : Int).toNat := (by rw [Ny547.out, List.length_drop, List.length_take] <;> omega)
             rw [show ((t539).take (a3 : Int).toNat).drop (a2 : Int).toNat = y547 from Ny547.out.symm] at hr57
             replace hr57 : Kd.C k24 _ A57 y547.length y547 := (by rw [hA57]; exact hr57)
             rw [← hy57, ← hA57, ← hc57] at hcut57
             have HR550 := Aside0.mk hr57
             have HC550 := Aside0.mk (show y547.length ≤ c57 from by rw [hy57, hc57]; exact Nat.sub_le_sub_right (Nat.le_trans (by omega) hroom57) _)
             clear hr57 hC57 hroom57 hi057 hsz57 hc57
             have KY57 := Aside0.mk hy57
             have KA57 := Aside0.mk hA57
             clear hy57 hA57
             have KL57 := Aside0.mk (show (a3 : Int).toNat ≤ t539.length from by omega)
             have KM57 := Aside0.mk (show (a2 : Int).toNat ≤ (a3 : Int).toNat from by omega)
             replace q57 := eq_true q57
             go_wp2_with (first | ((with_reducible refine gate_callee (f := 47) rfl ?_); refine goesL_ (some 87) rfl rfl Tryz.func47 (by kernel_rfl) rfl #[.slice A0 l0.length c0, .int .i64 a2, .int .i64 a3, .slice A57 y547.length c57, .int .i64 0] rfl (by (try simp only [List.map_toArray, List.map_cons, List.map_nil]); first | done | rfl | (simp only [List.length_drop, List.length_take]; rfl)) ?_; (with_reducible refine (redpencillaw12_dots.calls kj32 _ _ l0 a2 a3 _ _ y547 0 false _ ?side1 ?side2 ?side3 ?side4 A50.out).mono ?_); (case side1 => repeat (first | exact (Kd.C_below HR0.out HB.out) | (with_reducible refine Kd.C_alloc ?_ _) | (with_reducible refine Kd.C_drewN ?_ _) | (with_reducible refine Kd.C_drew ?_))); (case side2 => exact HC0.out); (case side3 => repeat (first | exact (by repeat (first | (with_reducible exact HR550.out) | (with_reducible refine Kd.C_alloc ?_ _) | (with_reducible refine Kd.C_drewN ?_ _) | (with_reducible refine Kd.C_drew ?_) | exact HR550.out)) | (with_reducible refine Kd.C_alloc ?_ _) | (with_reducible refine Kd.C_drewN ?_ _) | (with_reducible refine Kd.C_drew ?_))); (case side4 => exact HC550.out); rintro e w59 ⟨rfl, hb⟩; refine ⟨_, rfl, ?_⟩; have n0_ := Aside0.mk (Kd.R_below (by (with_reducible repeat (first | apply Kd.R_alloc | apply Kd.R_drewN | apply Kd.R_drew)); exact HO_10.out) hb); have n1_ := Aside0.mk (blk_below (g := gb534) (o := .cells #[.int .i64 0, .int .i64 0] 24 (0, 0)) (by (with_reducible repeat (first | refine blk_drewN ?_ _ | refine blk_drew ?_ | refine blk_alloc ?_ _)); exact BK534.out) hb); have n2_ := Aside0.mk (blk_below (g := gb542) (o := .cells #[.int .i64 x543000_10, .int .i64 x543001_10] 24 (0, 0)) (by (with_reducible repeat (first | refine blk_drewN ?_ _ | refine blk_drew ?_ | refine blk_alloc ?_ _)); exact BK542.out) hb); have n3_ := Aside0.mk (Kd.C_below (by repeat (first | (with_reducible exact HR550.out) | (with_reducible refine Kd.C_alloc ?_ _) | (with_reducible refine Kd.C_drewN ?_ _) | (with_reducible refine Kd.C_drew ?_) | exact HR550.out)) hb); have n4_ := Aside0.mk (below_step (by repeat (first | (with_reducible first | exact HB.out | apply below_alloc | apply pw_below_drewN | apply below_drew1 | refine below_set ?_ GE534.out | refine below_set ?_ GE542.out) | exact HB.out)) hb); clear HO_10; clear BK534; clear BK542; clear HR550; clear HB; have HO_10 := n0_; have BK534 := n1_; have BK542 := n2_; have HR550 := n3_; have HB := n4_; clear n0_ n1_ n2_ n3_ n4_; (try clear hb); (try clear hb2); (try clear hk); (try clear hi)))
             go_ret
             exact ⟨by first | rfl | (simp [errW_none, errW_some] <;> rfl) | (simp [*, errW_none, errW_some] <;> rfl), by repeat (first | (with_reducible first | exact HB.out | apply below_alloc | apply pw_below_drewN | apply below_drew1 | refine below_set ?_ GE534.out | refine below_set ?_ GE542.out) | exact HB.out)⟩
           ·
            rw [if_neg c49] at H
            exact absurd H (by simp)
          ·
           rw [if_neg c48] at H
           exact absurd H (by simp)
         ·
          rw [if_neg c47] at H
          exact absurd H (by simp)
     ·
      replace c32 := Bool.eq_false_iff.mpr c32
      subst c32
      have H1 : (some false) = some r := by rw [if_neg (show ¬ (false = true) by decide)] at H; exact H
      clear H
      have H := H1
      clear H1
      obtain rfl := Option.some.inj H
      have hnb60 := NB542_534.out
      have hnc60 := NB534_542.out
      have hcz61_0 : wc.cell? ⟨gb542, 0, none⟩ = some (.int .i64 x543000_10) := (blk_cell BK542.out 0).trans rfl
      have hcz61_1 : wc.cell? ⟨gb542, 1, none⟩ = some (.int .i64 x543001_10) := (blk_cell BK542.out 1).trans rfl
      have hfz61_0 := blk_frozen BK542.out 0
      have hfz61_1 := blk_frozen BK542.out 1
      go_wp2_with (first | ((with_reducible refine gate_callee (f := 46) rfl ?_); refine goesL_ (some 58) rfl rfl Tryz.func46 (by kernel_rfl) rfl #[.slice A0 l0.length c0, .int .i64 a1, .agg #[.int .i64 x543000_10, .int .i64 x543001_10], .int .i64 x12_10] rfl (by (try simp only [List.map_toArray, List.map_cons, List.map_nil]); first | done | rfl | (simp only [List.length_drop, List.length_take]; rfl)) ?_; (with_reducible refine (redpencillaw12_left.calls kj10 _ _ l0 a1 x543000_10 x543001_10 x12_10 false _ ?side1 ?side2 A31.out).mono ?_); (case side1 => repeat (first | exact (Kd.C_below HR0.out HB.out) | (with_reducible refine Kd.C_alloc ?_ _) | (with_reducible refine Kd.C_drewN ?_ _) | (with_reducible refine Kd.C_drew ?_))); (case side2 => exact HC0.out); rintro e w62 ⟨rfl, hb⟩; refine ⟨_, rfl, ?_⟩; have n0_ := Aside0.mk (Kd.R_below (by (with_reducible repeat (first | apply Kd.R_alloc | apply Kd.R_drewN | apply Kd.R_drew)); exact HO_10.out) hb); have n1_ := Aside0.mk (blk_below (g := gb534) (o := .cells #[.int .i64 0, .int .i64 0] 24 (0, 0)) (by (with_reducible repeat (first | refine blk_drewN ?_ _ | refine blk_drew ?_ | refine blk_alloc ?_ _)); exact BK534.out) hb); have n2_ := Aside0.mk (blk_below (g := gb542) (o := .cells #[.int .i64 x543000_10, .int .i64 x543001_10] 24 (0, 0)) (by (with_reducible repeat (first | refine blk_drewN ?_ _ | refine blk_drew ?_ | refine blk_alloc ?_ _)); exact BK542.out) hb); have n3_ := Aside0.mk (below_step (by repeat (first | (with_reducible first | exact HB.out | apply below_alloc | apply pw_below_drewN | apply below_drew1 | refine below_set ?_ GE534.out | refine below_set ?_ GE542.out) | exact HB.out)) hb); clear HO_10; clear BK534; clear BK542; clear HB; have HO_10 := n0_; have BK534 := n1_; have BK542 := n2_; have HB := n3_; clear n0_ n1_ n2_ n3_; (try clear hb); (try clear hb2); (try clear hk); (try clear hi)))
      go_ret
      exact ⟨by first | rfl | (simp [errW_none, errW_some] <;> rfl) | (simp [*, errW_none, errW_some] <;> rfl), by repeat (first | (with_reducible first | exact HB.out | apply below_alloc | apply pw_below_drewN | apply below_drew1 | refine below_set ?_ GE534.out | refine below_set ?_ GE542.out) | exact HB.out)⟩
  ·
   replace c9 := Bool.eq_false_iff.mpr c9
   subst c9
   have H1 : ((redpencillaw12_left.f k l0 a1 0 0 2).bind fun t536 => (if t536 = true then ((redpencillaw12_dots.f k l0 a2 a3 ([] : List (S24)) 2).bind fun t537 => (if t537 = true then ((redpencillaw12_known.f).bind fun t538 => (some t538)) else (some false))) else (some false))) = some r := by rw [if_neg (show ¬ (false = true) by decide)] at H; exact H
   clear H
   have H := H1
   clear H1
   replace H := Option.bind_eq_some_iff.mp H
   obtain ⟨t536, A630, H⟩ := H
   replace H : (if t536 = true then ((redpencillaw12_dots.f k l0 a2 a3 ([] : List (S24)) 2).bind fun t537 => (if t537 = true then ((redpencillaw12_known.f).bind fun t538 => (some t538)) else (some false))) else (some false)) = some r := H
   have A63 := Aside0.mk A630
   clear A630
   by_cases c64 : t536 = true
   ·
    subst c64
    have H1 : ((redpencillaw12_dots.f k l0 a2 a3 ([] : List (S24)) 2).bind fun t537 => (if t537 = true then ((redpencillaw12_known.f).bind fun t538 => (some t538)) else (some false))) = some r := by rw [if_pos rfl] at H; exact H
    clear H
    have H := H1
    clear H1
    replace H := Option.bind_eq_some_iff.mp H
    obtain ⟨t537, A650, H⟩ := H
    replace H : (if t537 = true then ((redpencillaw12_known.f).bind fun t538 => (some t538)) else (some false)) = some r := H
    have A65 := Aside0.mk A650
    clear A650
    by_cases c66 : t537 = true
    ·
     subst c66
     have H1 : ((redpencillaw12_known.f).bind fun t538 => (some t538)) = some r := by rw [if_pos rfl] at H; exact H
     clear H
     have H := H1
     clear H1
     replace H := Option.bind_eq_some_iff.mp H
     obtain ⟨t538, A670, H⟩ := H
     replace H : (some t538) = some r := H
     have A67 := Aside0.mk A670
     clear A670
     obtain rfl := Option.some.inj H
     go_enter Tryz.func9, Tryz.ntmps9
     go_wp2_with (first | ((with_reducible refine gate_dst (N := 9) rfl ?_); (try (refine gate_guard (by rfl) ?_; dsimp only)); refine box_event ?hg (N := 9) ?hd (cs := #[.int .i64 0, .int .i64 0]) (t := 24) ?hr ?_; (case hd => rfl); (case hg => rfl); (case hr => first | (go_simp; done) | (go_simp; rfl)); intro gb534 hg w68 hbox hb; have n0_ := Aside0.mk (below_step (by repeat (first | (with_reducible first | exact HB.out | apply below_alloc | apply pw_below_drewN | apply below_drew1) | exact HB.out)) hb); have n1_ := Aside0.mk (hbox); have n2_ := Aside0.mk ((by rw [hg]; exact (below_size (by repeat (first | (with_reducible first | exact HB.out | apply below_alloc | apply pw_below_drewN | apply below_drew1) | exact HB.out))) : w.heap.size ≤ gb534)); have n3_ := Aside0.mk ((by rw [hg]; exact (below_size (by repeat (first | (with_reducible first | exact HB.out | apply below_alloc | apply pw_below_drewN | apply below_drew1) | exact HB.out))) : w.heap.size ≤ gb534)); clear HB; have HB := n0_; have BK534 := n1_; have GW534 := n2_; have GE534 := n3_; clear n0_ n1_ n2_ n3_; clear hb hbox hg; have hcz69_0 : w68.cell? ⟨gb534, 0, none⟩ = some (.int .i64 0) := (blk_cell BK534.out 0).trans rfl; have hcz69_1 : w68.cell? ⟨gb534, 1, none⟩ = some (.int .i64 0) := (blk_cell BK534.out 1).trans rfl; have hfz69_0 := blk_frozen BK534.out 0; have hfz69_1 := blk_frozen BK534.out 1) | ((with_reducible refine gate_callee (f := 14) rfl ?_); refine goesL_ (some 19) rfl rfl Tryz.func14 (by kernel_rfl) rfl #[.slice A0 l0.length c0] rfl (by (try simp only [List.map_toArray, List.map_cons, List.map_nil]); first | done | rfl | (simp only [List.length_drop, List.length_take]; rfl)) ?_; (with_reducible refine (redpencilref10_Valid.calls k _ _ l0 false _ ?side1 ?side2 A8.out).mono ?_); (case side1 => exact Kd.C_below HR0.out (by repeat (first | (with_reducible first | exact HB.out | apply below_alloc | apply pw_below_drewN | apply below_drew1 | refine below_set ?_ GE534.out) | exact HB.out))); (case side2 => exact HC0.out); rintro e w70 ⟨rfl, hb⟩; refine ⟨_, rfl, ?_⟩; have n0_ := Aside0.mk (blk_below (g := gb534) (o := .cells #[.int .i64 0, .int .i64 0] 24 (0, 0)) (by (with_reducible repeat (first | refine blk_drewN ?_ _ | refine blk_drew ?_ | refine blk_alloc ?_ _)); refine blk_put (cs := #[.int .i64 0, .int .i64 0]) ?_ 1 _ rfl; (with_reducible repeat (first | refine blk_drewN ?_ _ | refine blk_drew ?_ | refine blk_alloc ?_ _)); refine blk_put (cs := #[.int .i64 0, .int .i64 0]) ?_ 0 _ rfl; (with_reducible repeat (first | refine blk_drewN ?_ _ | refine blk_drew ?_ | refine blk_alloc ?_ _)); exact BK534.out) hb); have n1_ := Aside0.mk (below_step (by repeat (first | (with_reducible first | exact HB.out | apply below_alloc | apply pw_below_drewN | apply below_drew1 | refine below_set ?_ GE534.out) | exact HB.out)) hb); clear BK534; clear HB; have BK534 := n0_; have HB := n1_; clear n0_ n1_; (try clear hb); (try clear hb2); (try clear hk); (try clear hi); have hcz71_0 : w70.cell? ⟨gb534, 0, none⟩ = some (.int .i64 0) := (blk_cell BK534.out 0).trans rfl; have hcz71_1 : w70.cell? ⟨gb534, 1, none⟩ = some (.int .i64 0) := (blk_cell BK534.out 1).trans rfl; have hfz71_0 := blk_frozen BK534.out 0; have hfz71_1 := blk_frozen BK534.out 1) | ((with_reducible refine gate_callee (f := 46) rfl ?_); refine goesL_ (some 24) rfl rfl Tryz.func46 (by kernel_rfl) rfl #[.slice A0 l0.length c0, .int .i64 a1, .agg #[.int .i64 0, .int .i64 0], .int .i64 2] rfl (by (try simp only [List.map_toArray, List.map_cons, List.map_nil]); first | done | rfl | (simp only [List.length_drop, List.length_take]; rfl)) ?_; (with_reducible refine (redpencillaw12_left.calls k _ _ l0 a1 0 0 2 true _ ?side1 ?side2 A63.out).mono ?_); (case side1 => repeat (first | exact (Kd.C_below HR0.out HB.out) | (with_reducible refine Kd.C_alloc ?_ _) | (with_reducible refine Kd.C_drewN ?_ _) | (with_reducible refine Kd.C_drew ?_))); (case side2 => exact HC0.out); rintro e w72 ⟨rfl, hb⟩; refine ⟨_, rfl, ?_⟩; have n0_ := Aside0.mk (blk_below (g := gb534) (o := .cells #[.int .i64 0, .int .i64 0] 24 (0, 0)) (by (with_reducible repeat (first | refine blk_drewN ?_ _ | refine blk_drew ?_ | refine blk_alloc ?_ _)); exact BK534.out) hb); have n1_ := Aside0.mk (below_step (by repeat (first | (with_reducible first | exact HB.out | apply below_alloc | apply pw_below_drewN | apply below_drew1 | refine below_set ?_ GE534.out) | exact HB.out)) hb); clear BK534; clear HB; have BK534 := n0_; have HB := n1_; clear n0_ n1_; (try clear hb); (try clear hb2); (try clear hk); (try clear hi)) | (go_at_call 47; (refine (redpencillaw12_dots.calls k _ _ l0 a2 a3 _ _ ([] : List (S24)) 2 true _ ?side1 ?side2 ?side3 ?side4 A65.out).mono ?_); (case side1 => repeat (first | exact (Kd.C_below HR0.out HB.out) | (with_reducible refine Kd.C_alloc ?_ _) | (with_reducible refine Kd.C_drewN ?_ _) | (with_reducible refine Kd.C_drew ?_))); (case side2 => exact HC0.out); (case side3 => exact Kd.C_nil _ _); (case side4 => exact Nat.le_refl _); rintro e w73 ⟨rfl, hb⟩; have n0_ := Aside0.mk (blk_below (g := gb534) (o := .cells #[.int .i64 0, .int .i64 0] 24 (0, 0)) (by (with_reducible repeat (first | refine blk_drewN ?_ _ | refine blk_drew ?_ | refine blk_alloc ?_ _)); exact BK534.out) hb); have n1_ := Aside0.mk (below_step (by repeat (first | (with_reducible first | exact HB.out | apply below_alloc | apply pw_below_drewN | apply below_drew1 | refine below_set ?_ GE534.out) | exact HB.out)) hb); clear BK534; clear HB; have BK534 := n0_; have HB := n1_; clear n0_ n1_; (try clear hb); (try clear hb2); (try clear hk); (try clear hi)) | (go_at_call 34; (with_reducible refine (redpencillaw12_known.calls  t538 _ A67.out).mono ?_); rintro e w74 ⟨rfl, hb⟩; have n0_ := Aside0.mk (blk_below (g := gb534) (o := .cells #[.int .i64 0, .int .i64 0] 24 (0, 0)) (by (with_reducible repeat (first | refine blk_drewN ?_ _ | refine blk_drew ?_ | refine blk_alloc ?_ _)); exact BK534.out) hb); have n1_ := Aside0.mk (below_step (by repeat (first | (with_reducible first | exact HB.out | apply below_alloc | apply pw_below_drewN | apply below_drew1 | refine below_set ?_ GE534.out) | exact HB.out)) hb); clear BK534; clear HB; have BK534 := n0_; have HB := n1_; clear n0_ n1_; (try clear hb); (try clear hb2); (try clear hk); (try clear hi)))
     go_ret
     exact ⟨by first | rfl | (simp [errW_none, errW_some] <;> rfl) | (simp [*, errW_none, errW_some] <;> rfl), by repeat (first | (with_reducible first | exact HB.out | apply below_alloc | apply pw_below_drewN | apply below_drew1 | refine below_set ?_ GE534.out) | exact HB.out)⟩
    ·
     replace c66 := Bool.eq_false_iff.mpr c66
     subst c66
     have H1 : (some false) = some r := by rw [if_neg (show ¬ (false = true) by decide)] at H; exact H
     clear H
     have H := H1
     clear H1
     obtain rfl := Option.some.inj H
     go_enter Tryz.func9, Tryz.ntmps9
     go_wp2_with (first | ((with_reducible refine gate_dst (N := 9) rfl ?_); (try (refine gate_guard (by rfl) ?_; dsimp only)); refine box_event ?hg (N := 9) ?hd (cs := #[.int .i64 0, .int .i64 0]) (t := 24) ?hr ?_; (case hd => rfl); (case hg => rfl); (case hr => first | (go_simp; done) | (go_simp; rfl)); intro gb534 hg w75 hbox hb; have n0_ := Aside0.mk (below_step (by repeat (first | (with_reducible first | exact HB.out | apply below_alloc | apply pw_below_drewN | apply below_drew1) | exact HB.out)) hb); have n1_ := Aside0.mk (hbox); have n2_ := Aside0.mk ((by rw [hg]; exact (below_size (by repeat (first | (with_reducible first | exact HB.out | apply below_alloc | apply pw_below_drewN | apply below_drew1) | exact HB.out))) : w.heap.size ≤ gb534)); have n3_ := Aside0.mk ((by rw [hg]; exact (below_size (by repeat (first | (with_reducible first | exact HB.out | apply below_alloc | apply pw_below_drewN | apply below_drew1) | exact HB.out))) : w.heap.size ≤ gb534)); clear HB; have HB := n0_; have BK534 := n1_; have GW534 := n2_; have GE534 := n3_; clear n0_ n1_ n2_ n3_; clear hb hbox hg; have hcz76_0 : w75.cell? ⟨gb534, 0, none⟩ = some (.int .i64 0) := (blk_cell BK534.out 0).trans rfl; have hcz76_1 : w75.cell? ⟨gb534, 1, none⟩ = some (.int .i64 0) := (blk_cell BK534.out 1).trans rfl; have hfz76_0 := blk_frozen BK534.out 0; have hfz76_1 := blk_frozen BK534.out 1) | ((with_reducible refine gate_callee (f := 14) rfl ?_); refine goesL_ (some 19) rfl rfl Tryz.func14 (by kernel_rfl) rfl #[.slice A0 l0.length c0] rfl (by (try simp only [List.map_toArray, List.map_cons, List.map_nil]); first | done | rfl | (simp only [List.length_drop, List.length_take]; rfl)) ?_; (with_reducible refine (redpencilref10_Valid.calls k _ _ l0 false _ ?side1 ?side2 A8.out).mono ?_); (case side1 => exact Kd.C_below HR0.out (by repeat (first | (with_reducible first | exact HB.out | apply below_alloc | apply pw_below_drewN | apply below_drew1 | refine below_set ?_ GE534.out) | exact HB.out))); (case side2 => exact HC0.out); rintro e w77 ⟨rfl, hb⟩; refine ⟨_, rfl, ?_⟩; have n0_ := Aside0.mk (blk_below (g := gb534) (o := .cells #[.int .i64 0, .int .i64 0] 24 (0, 0)) (by (with_reducible repeat (first | refine blk_drewN ?_ _ | refine blk_drew ?_ | refine blk_alloc ?_ _)); refine blk_put (cs := #[.int .i64 0, .int .i64 0]) ?_ 1 _ rfl; (with_reducible repeat (first | refine blk_drewN ?_ _ | refine blk_drew ?_ | refine blk_alloc ?_ _)); refine blk_put (cs := #[.int .i64 0, .int .i64 0]) ?_ 0 _ rfl; (with_reducible repeat (first | refine blk_drewN ?_ _ | refine blk_drew ?_ | refine blk_alloc ?_ _)); exact BK534.out) hb); have n1_ := Aside0.mk (below_step (by repeat (first | (with_reducible first | exact HB.out | apply below_alloc | apply pw_below_drewN | apply below_drew1 | refine below_set ?_ GE534.out) | exact HB.out)) hb); clear BK534; clear HB; have BK534 := n0_; have HB := n1_; clear n0_ n1_; (try clear hb); (try clear hb2); (try clear hk); (try clear hi); have hcz78_0 : w77.cell? ⟨gb534, 0, none⟩ = some (.int .i64 0) := (blk_cell BK534.out 0).trans rfl; have hcz78_1 : w77.cell? ⟨gb534, 1, none⟩ = some (.int .i64 0) := (blk_cell BK534.out 1).trans rfl; have hfz78_0 := blk_frozen BK534.out 0; have hfz78_1 := blk_frozen BK534.out 1) | ((with_reducible refine gate_callee (f := 46) rfl ?_); refine goesL_ (some 24) rfl rfl Tryz.func46 (by kernel_rfl) rfl #[.slice A0 l0.length c0, .int .i64 a1, .agg #[.int .i64 0, .int .i64 0], .int .i64 2] rfl (by (try simp only [List.map_toArray, List.map_cons, List.map_nil]); first | done | rfl | (simp only [List.length_drop, List.length_take]; rfl)) ?_; (with_reducible refine (redpencillaw12_left.calls k _ _ l0 a1 0 0 2 true _ ?side1 ?side2 A63.out).mono ?_); (case side1 => repeat (first | exact (Kd.C_below HR0.out HB.out) | (with_reducible refine Kd.C_alloc ?_ _) | (with_reducible refine Kd.C_drewN ?_ _) | (with_reducible refine Kd.C_drew ?_))); (case side2 => exact HC0.out); rintro e w79 ⟨rfl, hb⟩; refine ⟨_, rfl, ?_⟩; have n0_ := Aside0.mk (blk_below (g := gb534) (o := .cells #[.int .i64 0, .int .i64 0] 24 (0, 0)) (by (with_reducible repeat (first | refine blk_drewN ?_ _ | refine blk_drew ?_ | refine blk_alloc ?_ _)); exact BK534.out) hb); have n1_ := Aside0.mk (below_step (by repeat (first | (with_reducible first | exact HB.out | apply below_alloc | apply pw_below_drewN | apply below_drew1 | refine below_set ?_ GE534.out) | exact HB.out)) hb); clear BK534; clear HB; have BK534 := n0_; have HB := n1_; clear n0_ n1_; (try clear hb); (try clear hb2); (try clear hk); (try clear hi)) | (go_at_call 47; (refine (redpencillaw12_dots.calls k _ _ l0 a2 a3 _ _ ([] : List (S24)) 2 false _ ?side1 ?side2 ?side3 ?side4 A65.out).mono ?_); (case side1 => repeat (first | exact (Kd.C_below HR0.out HB.out) | (with_reducible refine Kd.C_alloc ?_ _) | (with_reducible refine Kd.C_drewN ?_ _) | (with_reducible refine Kd.C_drew ?_))); (case side2 => exact HC0.out); (case side3 => exact Kd.C_nil _ _); (case side4 => exact Nat.le_refl _); rintro e w80 ⟨rfl, hb⟩; have n0_ := Aside0.mk (blk_below (g := gb534) (o := .cells #[.int .i64 0, .int .i64 0] 24 (0, 0)) (by (with_reducible repeat (first | refine blk_drewN ?_ _ | refine blk_drew ?_ | refine blk_alloc ?_ _)); exact BK534.out) hb); have n1_ := Aside0.mk (below_step (by repeat (first | (with_reducible first | exact HB.out | apply below_alloc | apply pw_below_drewN | apply below_drew1 | refine below_set ?_ GE534.out) | exact HB.out)) hb); clear BK534; clear HB; have BK534 := n0_; have HB := n1_; clear n0_ n1_; (try clear hb); (try clear hb2); (try clear hk); (try clear hi)))
     go_ret
     exact ⟨by first | rfl | (simp [errW_none, errW_some] <;> rfl) | (simp [*, errW_none, errW_some] <;> rfl), by repeat (first | (with_reducible first | exact HB.out | apply below_alloc | apply pw_below_drewN | apply below_drew1 | refine below_set ?_ GE534.out) | exact HB.out)⟩
   ·
    replace c64 := Bool.eq_false_iff.mpr c64
    subst c64
    have H1 : (some false) = some r := by rw [if_neg (show ¬ (false = true) by decide)] at H; exact H
    clear H
    have H := H1
    clear H1
    obtain rfl := Option.some.inj H
    go_enter Tryz.func9, Tryz.ntmps9
    go_wp2_with (first | ((with_reducible refine gate_dst (N := 9) rfl ?_); (try (refine gate_guard (by rfl) ?_; dsimp only)); refine box_event ?hg (N := 9) ?hd (cs := #[.int .i64 0, .int .i64 0]) (t := 24) ?hr ?_; (case hd => rfl); (case hg => rfl); (case hr => first | (go_simp; done) | (go_simp; rfl)); intro gb534 hg w81 hbox hb; have n0_ := Aside0.mk (below_step (by repeat (first | (with_reducible first | exact HB.out | apply below_alloc | apply pw_below_drewN | apply below_drew1) | exact HB.out)) hb); have n1_ := Aside0.mk (hbox); have n2_ := Aside0.mk ((by rw [hg]; exact (below_size (by repeat (first | (with_reducible first | exact HB.out | apply below_alloc | apply pw_below_drewN | apply below_drew1) | exact HB.out))) : w.heap.size ≤ gb534)); have n3_ := Aside0.mk ((by rw [hg]; exact (below_size (by repeat (first | (with_reducible first | exact HB.out | apply below_alloc | apply pw_below_drewN | apply below_drew1) | exact HB.out))) : w.heap.size ≤ gb534)); clear HB; have HB := n0_; have BK534 := n1_; have GW534 := n2_; have GE534 := n3_; clear n0_ n1_ n2_ n3_; clear hb hbox hg; have hcz82_0 : w81.cell? ⟨gb534, 0, none⟩ = some (.int .i64 0) := (blk_cell BK534.out 0).trans rfl; have hcz82_1 : w81.cell? ⟨gb534, 1, none⟩ = some (.int .i64 0) := (blk_cell BK534.out 1).trans rfl; have hfz82_0 := blk_frozen BK534.out 0; have hfz82_1 := blk_frozen BK534.out 1) | ((with_reducible refine gate_callee (f := 14) rfl ?_); refine goesL_ (some 19) rfl rfl Tryz.func14 (by kernel_rfl) rfl #[.slice A0 l0.length c0] rfl (by (try simp only [List.map_toArray, List.map_cons, List.map_nil]); first | done | rfl | (simp only [List.length_drop, List.length_take]; rfl)) ?_; (with_reducible refine (redpencilref10_Valid.calls k _ _ l0 false _ ?side1 ?side2 A8.out).mono ?_); (case side1 => exact Kd.C_below HR0.out (by repeat (first | (with_reducible first | exact HB.out | apply below_alloc | apply pw_below_drewN | apply below_drew1 | refine below_set ?_ GE534.out) | exact HB.out))); (case side2 => exact HC0.out); rintro e w83 ⟨rfl, hb⟩; refine ⟨_, rfl, ?_⟩; have n0_ := Aside0.mk (blk_below (g := gb534) (o := .cells #[.int .i64 0, .int .i64 0] 24 (0, 0)) (by (with_reducible repeat (first | refine blk_drewN ?_ _ | refine blk_drew ?_ | refine blk_alloc ?_ _)); refine blk_put (cs := #[.int .i64 0, .int .i64 0]) ?_ 1 _ rfl; (with_reducible repeat (first | refine blk_drewN ?_ _ | refine blk_drew ?_ | refine blk_alloc ?_ _)); refine blk_put (cs := #[.int .i64 0, .int .i64 0]) ?_ 0 _ rfl; (with_reducible repeat (first | refine blk_drewN ?_ _ | refine blk_drew ?_ | refine blk_alloc ?_ _)); exact BK534.out) hb); have n1_ := Aside0.mk (below_step (by repeat (first | (with_reducible first | exact HB.out | apply below_alloc | apply pw_below_drewN | apply below_drew1 | refine below_set ?_ GE534.out) | exact HB.out)) hb); clear BK534; clear HB; have BK534 := n0_; have HB := n1_; clear n0_ n1_; (try clear hb); (try clear hb2); (try clear hk); (try clear hi); have hcz84_0 : w83.cell? ⟨gb534, 0, none⟩ = some (.int .i64 0) := (blk_cell BK534.out 0).trans rfl; have hcz84_1 : w83.cell? ⟨gb534, 1, none⟩ = some (.int .i64 0) := (blk_cell BK534.out 1).trans rfl; have hfz84_0 := blk_frozen BK534.out 0; have hfz84_1 := blk_frozen BK534.out 1) | ((with_reducible refine gate_callee (f := 46) rfl ?_); refine goesL_ (some 24) rfl rfl Tryz.func46 (by kernel_rfl) rfl #[.slice A0 l0.length c0, .int .i64 a1, .agg #[.int .i64 0, .int .i64 0], .int .i64 2] rfl (by (try simp only [List.map_toArray, List.map_cons, List.map_nil]); first | done | rfl | (simp only [List.length_drop, List.length_take]; rfl)) ?_; (with_reducible refine (redpencillaw12_left.calls k _ _ l0 a1 0 0 2 false _ ?side1 ?side2 A63.out).mono ?_); (case side1 => repeat (first | exact (Kd.C_below HR0.out HB.out) | (with_reducible refine Kd.C_alloc ?_ _) | (with_reducible refine Kd.C_drewN ?_ _) | (with_reducible refine Kd.C_drew ?_))); (case side2 => exact HC0.out); rintro e w85 ⟨rfl, hb⟩; refine ⟨_, rfl, ?_⟩; have n0_ := Aside0.mk (blk_below (g := gb534) (o := .cells #[.int .i64 0, .int .i64 0] 24 (0, 0)) (by (with_reducible repeat (first | refine blk_drewN ?_ _ | refine blk_drew ?_ | refine blk_alloc ?_ _)); exact BK534.out) hb); have n1_ := Aside0.mk (below_step (by repeat (first | (with_reducible first | exact HB.out | apply below_alloc | apply pw_below_drewN | apply below_drew1 | refine below_set ?_ GE534.out) | exact HB.out)) hb); clear BK534; clear HB; have BK534 := n0_; have HB := n1_; clear n0_ n1_; (try clear hb); (try clear hb2); (try clear hk); (try clear hi)))
    go_ret
    exact ⟨by first | rfl | (simp [errW_none, errW_some] <;> rfl) | (simp [*, errW_none, errW_some] <;> rfl), by repeat (first | (with_reducible first | exact HB.out | apply below_alloc | apply pw_below_drewN | apply below_drew1 | refine below_set ?_ GE534.out) | exact HB.out)⟩
end Go.Proofs.YtjlpaagnajmogaaGreat.PWalk
end
section
namespace Go.Proofs.YtjlpaagnajmogaaGreat.PWalk
open Go.RowKit Go.Proofs.YtjlpaagnajmogaaGreatW.PrintWords Go.Proofs.YtjlpaagnajmogaaGreatW.PrintLast Go.Proofs.YtjlpaagnajmogaaGreatW.PrintMore
set_option linter.unusedVariables false
set_option linter.unusedSimpArgs false
open Go.Shelf
attribute [local go_sem] Oper.semAt_some
theorem dots10_from (l : List Node) (hl : l.length ≤ 1000000) : ∀ (q k i : Nat), i + q = l.length → q < k → redpencilref10_Dots.l0 k l false ((l.take i).map (·.f0)) (i : Int) = some (l.map (·.f0)) := by
 intro q
 induction q with
 | zero =>
  intro k i hi hk
  obtain ⟨k, rfl⟩ : ∃ m, k = m + 1 := ⟨k - 1, by omega⟩
  simp only [redpencilref10_Dots.l0]
  rw [if_neg (by omega), show i = l.length by omega, List.take_length]
 | succ q ih =>
  intro k i hi hk
  obtain ⟨k, rfl⟩ : ∃ m, k = m + 1 := ⟨k - 1, by omega⟩
  have hlt : i < l.length := by omega
  simp only [redpencilref10_Dots.l0]
  rw [if_pos (by omega), if_neg (by decide), if_pos (by omega), rdN hlt, wrap_succ hlt hl, if_pos (by rw [List.length_map, List.length_take]; omega)]
  have hs : (l.take i).map (·.f0) ++ [l[i].f0] = (l.take (i + 1)).map (·.f0) := by rw [List.take_succ_eq_append_getElem hlt, List.map_append]; rfl
  show redpencilref10_Dots.l0 k l false ((l.take i).map (·.f0) ++ [l[i].f0]) _ = _
  rw [hs]
  exact ih k (i + 1) (by omega) (by omega)
theorem refDots_is {ll : List Node} (hl : ll.length ≤ 40) (hs : storeOk ll = true) (k : Nat) (hk : 60 ≤ k) : redpencilref12_Dots.f k ll = some ((visOf ll).map (·.f0)) := by
 have := vis_len hs
 unfold redpencilref12_Dots.f redpencilref10_Dots.f
 rw [visible_is hl hs k hk]
 simp only [Option.bind_some]
 have h := dots10_from (visOf ll) (by omega) (visOf ll).length k 0 (by omega) (by omega)
 rw [List.take_zero] at h
 show (redpencilref10_Dots.l0 k (visOf ll) false [] 0).bind _ = _
 rw [show redpencilref10_Dots.l0 k (visOf ll) false [] 0 = _ from h]
 rfl
theorem left_bad {ll : List Node} (hl : ll.length ≤ 40) (hs : ¬ storeOk ll = true) (i : Int) {k : Nat} (hk : 3 ≤ k) : redpencillaw12_left.f k ll i 0 0 2 = some true := by
 obtain ⟨m, rfl⟩ : ∃ m, k = m + 1 := ⟨k - 1, by omega⟩
 unfold redpencillaw12_left.f index_Left.f
 rw [vis_is (by omega), if_neg hs]
 simp only [Option.bind_some, when_is, first2_k hk, index_Left.j0]
 by_cases h : i < 0
 ·
  rw [if_pos h]; rfl
 ·
  rw [if_neg h]; rfl
theorem left_range {ll : List Node} (hl : ll.length ≤ 40) (hs : storeOk ll = true) {i : Int} (hi : i < 0 ∨ (visOf ll).length < i) {k : Nat} (hk : 3 ≤ k) : redpencillaw12_left.f k ll i 0 0 3 = some true := by
 obtain ⟨m, rfl⟩ : ∃ m, k = m + 1 := ⟨k - 1, by omega⟩
 unfold redpencillaw12_left.f index_Left.f
 rw [vis_is (by omega), if_pos hs]
 simp only [Option.bind_some, when_is, first2_k hk, index_Left.j0]
 by_cases h : i < 0
 ·
  rw [if_pos h]; rfl
 ·
  rw [if_neg h, show decide (i > ((visOf ll).length : Int)) = true from decide_eq_true (by omega)]; rfl
theorem left_root {ll : List Node} (hl : ll.length ≤ 40) (hs : storeOk ll = true) {k : Nat} (hk : 3 ≤ k) : redpencillaw12_left.f k ll 0 0 0 0 = some true := by
 obtain ⟨m, rfl⟩ : ∃ m, k = m + 1 := ⟨k - 1, by omega⟩
 unfold redpencillaw12_left.f index_Left.f
 rw [vis_is (by omega), if_pos hs]
 simp only [Option.bind_some, when_is, first2_k hk, index_Left.j0]
 rw [if_neg (by omega), show decide ((0 : Int) > ((visOf ll).length : Int)) = false from decide_eq_false (by omega)]
 rfl
theorem left_at {ll : List Node} (hl : ll.length ≤ 40) (hs : storeOk ll = true) {i : Int} (h0 : 0 < i) (h1 : i ≤ (visOf ll).length) {k : Nat} (hk : 3 ≤ k) : redpencillaw12_left.f k ll i (rd_T24 ((visOf ll).map (·.f0)) (wrap64 (i - 1))).f0 (rd_T24 ((visOf ll).map (·.f0)) (wrap64 (i - 1))).f1 0 = some true := by
 obtain ⟨m, rfl⟩ : ∃ m, k = m + 1 := ⟨k - 1, by omega⟩
 have hv := vis_len hs
 have hw : wrap64 (i - 1) = ((i.toNat - 1 : Nat) : Int) := by unfold wrap64; omega
 have hlt : i.toNat - 1 < (visOf ll).length := by omega
 unfold redpencillaw12_left.f index_Left.f
 rw [vis_is (by omega), if_pos hs]
 simp only [Option.bind_some, when_is, first2_k hk, index_Left.j0]
 rw [if_neg (by omega), show decide (i > ((visOf ll).length : Int)) = false from decide_eq_false (by omega)]
 simp only [Bool.false_eq_true, if_false, if_true, Option.bind_some]
 rw [if_neg (by omega), hw, if_pos (by omega), if_pos (by omega), rdN hlt, rdD (by rw [List.length_map]; exact hlt)]
 simp
theorem dots12_bad {ll : List Node} (hl : ll.length ≤ 40) (hs : ¬ storeOk ll = true) (i j : Int) {k : Nat} (hk : 60 ≤ k) : redpencillaw12_dots.f k ll i j [] 2 = some true := by
 unfold redpencillaw12_dots.f index_Dots.f
 rw [if_pos (by omega), if_neg hs]
 simp only [Option.bind_some]
 rw [refSameD_is [] [] (by simp) k (by simp; omega)]
 rfl
theorem dots12_range {ll : List Node} (hl : ll.length ≤ 40) (hs : storeOk ll = true) {i j : Int} (h : i < 0 ∨ j < i ∨ (visOf ll).length < j) {k : Nat} (hk : 60 ≤ k) : redpencillaw12_dots.f k ll i j [] 3 = some true := by
 unfold redpencillaw12_dots.f index_Dots.f
 rw [if_pos (by omega), if_pos hs, if_pos h]
 simp only [Option.bind_some]
 rw [refSameD_is [] [] (by simp) k (by simp; omega)]
 rfl
theorem dots12_at {ll : List Node} (hl : ll.length ≤ 40) (hs : storeOk ll = true) {i j : Int} (h : ¬ (i < 0 ∨ j < i ∨ (visOf ll).length < j)) {k : Nat} (hk : 60 ≤ k) : redpencillaw12_dots.f k ll i j ((((visOf ll).map (·.f0)).take j.toNat).drop i.toNat) 0 = some true := by
 have hv := vis_len hs
 unfold redpencillaw12_dots.f index_Dots.f
 rw [if_pos (by omega), if_pos hs, if_neg h]
 simp only [Option.bind_some]
 rw [show (((visOf ll).take j.toNat).drop i.toNat).map (·.f0) = (((visOf ll).map (·.f0)).take j.toNat).drop i.toNat by rw [List.map_drop, List.map_take]]
 rw [refSameD_is _ _ (by rw [List.length_drop, List.length_take, List.length_map]; omega) k (by rw [List.length_drop, List.length_take, List.length_map]; omega)]
 simp
theorem parts_j2 {ll : List Node} (hl : ll.length ≤ 40) (hs : storeOk ll = true) (i j : Int) {k : Nat} (hk : 61 ≤ k) {b : Bool} (hb : b = decide (i < 0 ∨ j < i ∨ ((visOf ll).map (·.f0)).length < j)) : redpencillaw12_IndexParts.j2 k ll i j ((visOf ll).map (·.f0)) b = some true := by
 obtain ⟨k, rfl⟩ : ∃ m, k = m + 1 := ⟨k - 1, by omega⟩
 subst hb
 simp only [redpencillaw12_IndexParts.j2]
 have hlen : ((visOf ll).map (·.f0)).length = (visOf ll).length := List.length_map ..
 by_cases h : i < 0 ∨ j < i ∨ (((visOf ll).map (·.f0)).length : Int) < j
 ·
  rw [if_pos (decide_eq_true h), dots12_range hl hs (by rw [hlen] at h; exact h) (by omega)]
  rfl
 ·
  rw [if_neg (by rw [decide_eq_true_eq]; exact h), if_pos (by omega), if_pos (by omega), if_pos (by omega), dots12_at hl hs (by rw [hlen] at h; exact h) (by omega)]
  rfl
theorem parts_j1 {ll : List Node} (hl : ll.length ≤ 40) (hs : storeOk ll = true) (x i j e a b : Int) {k : Nat} (hk : 62 ≤ k) (h : redpencillaw12_left.f (k - 1) ll x a b e = some true) : redpencillaw12_IndexParts.j1 k ll x i j ((visOf ll).map (·.f0)) e a b = some true := by
 obtain ⟨k, rfl⟩ : ∃ m, k = m + 1 := ⟨k - 1, by omega⟩
 simp only [redpencillaw12_IndexParts.j1]
 rw [show k + 1 - 1 = k from rfl] at h
 rw [h]
 simp only [Option.bind_some, if_true]
 by_cases h1 : i < 0
 ·
  rw [if_pos h1]; exact parts_j2 hl hs i j (by omega) (by symm; rw [decide_eq_true_eq]; exact .inl h1)
 ·
  rw [if_neg h1]
  by_cases h2 : j < i
  ·
   rw [if_pos h2]; exact parts_j2 hl hs i j (by omega) (by symm; rw [decide_eq_true_eq]; exact .inr (.inl h2))
  ·
   rw [if_neg h2]
   refine parts_j2 hl hs i j (by omega) ?_
   rw [decide_eq_decide]
   constructor
   ·
    intro h3; exact .inr (.inr h3)
   ·
    rintro (h3 | h3 | h3)
    ·
     omega
    ·
     omega
    ·
     exact h3
theorem IndexParts_is (l : List Node) (hw : ∀ x ∈ l, runeIn x.f3) (x i j : Int) : redpencillaw12_IndexParts.f 1000 l x i j = some true := by
 unfold redpencillaw12_IndexParts.f
 by_cases h : (l.length : Int) > 40
 ·
  rw [if_pos h]; rfl
 rw [if_neg h, refValid_is l (by omega) hw 1000 (by omega)]
 simp only [Option.bind_some]
 by_cases hs : storeOk l = true
 ·
  have hv := vis_len hs
  have hlen : ((visOf l).map (·.f0)).length = (visOf l).length := List.length_map ..
  rw [if_pos hs, refDots_is (by omega) hs 1000 (by omega)]
  simp only [Option.bind_some]
  by_cases h0 : x < 0
  ·
   rw [if_pos h0]
   simp only [redpencillaw12_IndexParts.j0]
   rw [if_pos trivial]
   exact parts_j1 (by omega) hs x i j 3 0 0 (by omega) (left_range (by omega) hs (.inl h0) (by omega))
  ·
   rw [if_neg h0]
   simp only [redpencillaw12_IndexParts.j0]
   by_cases h1 : x > (((visOf l).map (·.f0)).length : Int)
   ·
    rw [if_pos (decide_eq_true h1)]
    exact parts_j1 (by omega) hs x i j 3 0 0 (by omega) (left_range (by omega) hs (.inr (by rw [hlen] at h1; exact h1)) (by omega))
   ·
    rw [if_neg (by rw [decide_eq_true_eq]; exact h1)]
    by_cases h2 : x > 0
    ·
     have hwx : wrap64 (x - 1) = x - 1 := by unfold wrap64; omega
     rw [if_pos h2, if_pos (by omega), if_pos (by omega)]
     exact parts_j1 (by omega) hs x i j 0 _ _ (by omega) (left_at (by omega) hs h2 (by omega) (by omega))
    ·
     obtain rfl : x = 0 := by omega
     rw [if_neg h2]
     exact parts_j1 (by omega) hs 0 i j 0 0 0 (by omega) (left_root (by omega) hs (by omega))
 ·
  rw [if_neg hs, left_bad (by omega) hs x (by omega)]
  simp only [Option.bind_some, if_true]
  rw [dots12_bad (by omega) hs i j (by omega)]
  rfl
theorem IndexParts.walk (A0 : Option Addr) (c0 : Nat) (l0 : List Node) (w : World) (hr0 : Kd.C k35 w A0 l0.length l0) (hc0 : l0.length ≤ c0) (hi : ∀ x ∈ l0, runeIn x.f3) (a1 : Int) (w1 : (Lit.int .i64 a1).wf = true) (a2 : Int) (w2 : (Lit.int .i64 a2).wf = true) (a3 : Int) (w3 : (Lit.int .i64 a3).wf = true) :
  Calls Tryz.prog 9 #[.slice A0 l0.length c0, .int .i64 a1, .int .i64 a2, .int .i64 a3] w fun e w' => e = .returned (.bool true) ∧ Below w.heap.size w w' :=
 redpencillaw12_IndexParts.calls 1000 A0 c0 l0 a1 a2 a3 true w hr0 hc0 (IndexParts_is l0 hi a1 a2 a3)
end Go.Proofs.YtjlpaagnajmogaaGreat.PWalk
end
section
namespace Go.Proofs.YtjlpaagnajmogaaGreat.indexParts
open Go.ChangeShapes Go.WideShapes Go.ChangeAt Go.RowKit
open Go.ChangeMaps (open_string shut_string)
open Go.Proofs.YtjlpaagnajmogaaGreatW.PrintWords
set_option linter.unusedVariables false
theorem six_of {α : Type} {cs : List α} (h : cs.length = 6) : ∃ c0 c1 c2 c3 c4 c5, cs = [c0, c1, c2, c3, c4, c5] := by
 match cs, h with
 | [a, b, c, d, e, f], _ => exact ⟨a, b, c, d, e, f, rfl⟩
theorem open_node {H : Type} {enc : TypeId × Value → H} {W : World} {base : Nat} {sp : Nat → Bool} {held : Bool} {fuel : Nat} {cs : List Value} {x : DataW H × List MemPlace} (h : DataW.trod enc Tryz.prog W base sp held fuel 35 cs = some x) :
  ∃ n : PWalk.Node, cs = PWalk.nodeCells n ∧ PWalk.runeIn n.f3 := by
 have e37 : Tryz.prog.cellsOf 35 = 6 := by kernel_rfl
 have e35 : Tryz.prog.cellsOf 24 = 2 := by kernel_rfl
 have e3 : Tryz.prog.cellsOf 3 = 1 := by kernel_rfl
 have e21 : Tryz.prog.cellsOf 21 = 1 := by kernel_rfl
 obtain ⟨y0, y1, y2, y3, n, rfl, hl, h0, h1, h2, h3⟩ := Go.Joins.trod_struct4 Tryz.underlying35 h
 rw [e37] at hl
 obtain ⟨c0, c1, c2, c3, c4, c5, rfl⟩ := six_of hl
 simp only [e35, e3, e21, List.drop_zero, List.drop_succ_cons, List.take_succ_cons, List.take_zero] at h0 h1 h2 h3
 obtain ⟨_, _, _, _, _, g0, g1⟩ := trod_struct2 Tryz.underlying24 h0
 obtain ⟨_, _, _, _, _, g2, g3⟩ := trod_struct2 Tryz.underlying24 h1
 simp only [e3, List.drop_zero, List.drop_succ_cons, List.take_succ_cons, List.take_zero] at g0 g1 g2 g3
 obtain ⟨k0, i0, _, _⟩ := DataW.trod_int Tryz.underlying3 g0
 obtain ⟨k1, i1, _, _⟩ := DataW.trod_int Tryz.underlying3 g1
 obtain ⟨k2, i2, _, _⟩ := DataW.trod_int Tryz.underlying3 g2
 obtain ⟨k3, i3, _, _⟩ := DataW.trod_int Tryz.underlying3 g3
 obtain ⟨k4, i4, _, _⟩ := DataW.trod_int Tryz.underlying3 h2
 obtain ⟨k5, i5, _, hw⟩ := DataW.trod_int Tryz.underlying21 h3
 simp only [List.cons.injEq, and_true] at i0 i1 i2 i3 i4 i5
 subst i0 i1 i2 i3 i4 i5
 refine ⟨⟨⟨k0, k1⟩, ⟨k2, k3⟩, k4, k5⟩, rfl, ?_⟩
 have hw2 : -2147483648 ≤ k5 ∧ k5 ≤ 2147483647 := by simpa [Lit.wf, IntKind.min, IntKind.max, IntKind.signed, IntKind.bits] using hw
 exact ⟨by show _ ≤ k5; omega, by show k5 ≤ _; omega⟩
/-- A []api.Node that came in, nil or not. -/
theorem open_nodes {H : Type} {enc : TypeId × Value → H} {W : World} {A : Option Addr} {len cap : Nat} {x : DataW H × List MemPlace} {fuel : Nat} (h : DataW.trod enc Tryz.prog W 0 (fun _ => true) true fuel 22 [.slice A len cap] = some x) :
  ∃ xs : List PWalk.Node, xs.length = len ∧ Kd.C PWalk.k35 W A len xs ∧ len ≤ cap ∧ ∀ n ∈ xs, PWalk.runeIn n.f3 := by
 have e37 : Tryz.prog.cellsOf 35 = 6 := by kernel_rfl
 rcases Go.Deep.open_slice Tryz.underlying22 h with ⟨hcs, _⟩ | ⟨a, len', cap', m, n, D, Pl, hcs, _, hl, hm, hmm, _, hx⟩
 ·
  simp at hcs
  obtain ⟨rfl, rfl, rfl⟩ := hcs
  exact ⟨[], rfl, ⟨rfl, by omega, fun hp => absurd hp (by omega)⟩, Nat.le_refl _, fun n hn => by cases hn⟩
 ·
  simp at hcs
  obtain ⟨rfl, rfl, rfl⟩ := hcs
  simp only [if_true] at hmm
  subst hmm
  rw [e37] at hx
  haveI : Inhabited PWalk.Node := ⟨⟨⟨0, 0⟩, ⟨0, 0⟩, 0, 0⟩⟩
  obtain ⟨N, hN⟩ := Go.Deep.choose_lt (α := PWalk.Node) (n := len) (p := fun i nd => PWalk.runeIn nd.f3 ∧ ∀ j u, (PWalk.nodeCells nd)[j]? = some u → W.cell? (a.add (i * 6 + j)) = some u) (fun i hi => by
   obtain ⟨cs', h1, h2⟩ := hx i (by omega)
   obtain ⟨nd, rfl, hr⟩ := open_node h2
   refine ⟨nd, hr, fun j u hu => ?_⟩
   obtain ⟨_, hlen, hc⟩ := World.cells?_some h1
   have hj : j < 6 := (List.getElem?_eq_some_iff.1 hu).1
   rw [← Addr.add_add a (i * 6) j]
   rw [← hu]
   exact hc j (by simpa using hj))
  refine ⟨(List.range len).map N, by simp, ⟨by simp, Nat.le_trans hl hm, fun hp => ⟨a, rfl, fun i nd hi => ?_⟩⟩, hl, fun nd hnd => ?_⟩
  ·
   have hil : i < len := by simpa using (List.getElem?_eq_some_iff.1 hi).1
   have hnd : nd = N i := by simpa [hil] using hi.symm
   subst hnd
   refine ⟨PWalk.nodeCells (N i), rfl, PWalk.k35.K_of_M (PWalk.k35_mkM W 0 (fun _ => True) (N i)), fun j u hu => (hN i hil).2 j u hu⟩
  ·
   obtain ⟨i, hi, rfl⟩ := List.mem_map.1 hnd
   exact (hN i (by simpa using hi)).1
theorem own : ownKnob Tryz.prog.godebug = none := by kernel_rfl
theorem laidOut : laidOutB Tryz.prog = true := by kernel_rfl
set_option maxRecDepth 100000 in
set_option maxHeartbeats 2000000 in
theorem lifted (os : Os) (started : os.Started) (H : Type) (enc : TypeId × Value → H) :
  ReturnsInHanded {} Tryz.checked os 9 .any (Rows.indexPartsSpec.pre6 enc Tryz.prog Tryz.f9 Rows.indexPartsRow.domain false) (Rows.indexPartsSpec.post enc Tryz.prog Tryz.f9 false true false false) := by
 refine returnsInHanded_of_change_sized (C := Tryz.checked) own started (by kernel_rfl) Tryz.func9
  (ChangeSpec.witness6 (enc := enc) (C := Tryz.checked) false ⟨#[], #[.slice none 0 0, .int .i64 0, .int .i64 0, .int .i64 0], []⟩ 8 (by kernel_rfl) (by kernel_rfl) (by kernel_rfl) (by kernel_rfl)) ?_
 intro W base args ds gs before hval0 hW hcnd hsz0 _
 have hval : ∀ (j : Nat) t v, Tryz.f9.params[j]? = some t → args[j]? = some v → Value.okWide Tryz.prog W .any base t v := hval0
 have hW' := hW
 obtain ⟨p, q, hA0, hV, rfl, hfz, hnd⟩ := hW
 have hA : DataW.TrodAll enc Tryz.prog W 0 (fun _ => true) true Tryz.f9.params.toList args.toList ds p := hA0
 rw [Tryz.params9] at hA hval
 obtain ⟨v0, vs0, d0, ds0, p0, q0, hargs, rfl, rfl, h0, r0⟩ := trodAll_cons hA
 obtain ⟨v1, vs1, d1, ds1, p1, q1, rfl, rfl, rfl, h1, r1⟩ := trodAll_cons r0
 obtain ⟨v2, vs2, d2, ds2, p2, q2, rfl, rfl, rfl, h2, r2⟩ := trodAll_cons r1
 obtain ⟨v3, vs3, d3, ds3, p3, q3, rfl, rfl, rfl, h3, r3⟩ := trodAll_cons r2
 obtain ⟨rfl, rfl, rfl⟩ := trodAll_nil r3
 obtain rfl : args = #[v0, v1, v2, v3] := by cases args; simp_all
 obtain ⟨rfl, rfl⟩ := trodVars_none hV
 obtain ⟨A0, len0, cap0, rfl⟩ := okWide_slice Tryz.underlying22 (hval 0 22 v0 rfl rfl)
 have k0 := h0
 have lt0 : ∀ x ∈ p0, x.block < W.heap.size := by obtain ⟨m, hm⟩ := k0; exact DataW.trod_lt m _ _ _ hm
 obtain ⟨f0, hf0⟩ := h0
 obtain ⟨xs0, rfl, hr0, hc0, hi0⟩ := open_nodes hf0
 obtain ⟨a1, rfl, rfl, rfl, w1⟩ := open_int Tryz.underlying3 (hval 1 3 v1 rfl rfl) h1
 obtain ⟨a2, rfl, rfl, rfl, w2⟩ := open_int Tryz.underlying3 (hval 2 3 v2 rfl rfl) h2
 obtain ⟨a3, rfl, rfl, rfl, w3⟩ := open_int Tryz.underlying3 (hval 3 3 v3 rfl rfl) h3
 clear hA0 hval0 hsz0
 refine (PWalk.IndexParts.walk A0 cap0 xs0 W hr0 hc0 hi0 a1 w1 a2 w2 a3 w3).mono fun e W' ⟨he, bel⟩ => ?_
 subst he
 exact ⟨_, rfl, _, _, _, [], _, [], hW', trodAll_mk1 (shut_bool Tryz.underlying4 _), (trodAll_cons_mk (Below.trod laidOut (by kernel_rfl) (of_decide_eq_true (by kernel_rfl)) k0 bel lt0) (trodAll_cons_mk (shut_int Tryz.underlying3 w1) (trodAll_cons_mk (shut_int Tryz.underlying3 w2) (trodAll_cons_mk (shut_int Tryz.underlying3 w3) trodAll_mk0)))), rfl, bel.frame _, fun h => by cases h⟩
theorem over : Rows.indexPartsRow.holds Tryz.pinned (OpenSpec.ofChange Rows.indexPartsSpec) :=
 OpenClaim.holds_of_wide 9 Tryz.f9 rfl rfl rfl rfl rfl rfl rfl ⟨rfl, rfl, rfl, rfl, rfl⟩ rfl rfl rfl rfl rfl (by kernel_rfl) Tryz.func9 (by kernel_rfl)
  (of_decide_eq_true (by kernel_rfl)) (by unfold Func.isWrapper; first | (rw [if_pos (by decide +kernel)]; kernel_rfl) | (rw [if_neg (by decide +kernel)]; exact ⟨rfl, rfl⟩))
  (fun os started H enc _ => lifted os started H enc)
theorem proved : Rows.IndexPartsSaid := over
#print axioms proved
end Go.Proofs.YtjlpaagnajmogaaGreat.indexParts
end
