/-
  The law EditDeletes of layer 15 holds for all states, indices and numbers. Part 7 of 12.
-/
import Derived.Test.YtmbndijbpgobeaaGreatEF
import Derived.Laws.ResultCell
import Derived.Laws.Rows
section
namespace Go.Proofs.YtmbndijbpgobeaaGreat.PWalk
open Go.RowKit Go.Proofs.YtmbndijbpgobeaaGreatW.PrintWords Go.Proofs.YtmbndijbpgobeaaGreatW.PrintLast Go.Proofs.YtmbndijbpgobeaaGreatW.PrintMore
attribute [local go_sem] max2_int max_two
set_option linter.unusedVariables false
set_option linter.unusedSimpArgs false
def node_Kill.f (a0_0 : Int) (a0_1 : Int) (a0_2 : Int) (a0_3 : Int) (a0_4 : Int) (a0_5 : Int) : Option (Int × Int × Int × Int × Int × Int) := some (a0_0, a0_1, a0_2, a0_3, a0_4, 0)
set_option maxHeartbeats 8000000 in
set_option maxRecDepth 100000 in
theorem node_Kill.calls (a0_0 : Int) (a0_1 : Int) (a0_2 : Int) (a0_3 : Int) (a0_4 : Int) (a0_5 : Int) (r1 : Int) (r2 : Int) (r3 : Int) (r4 : Int) (r5 : Int) (r6 : Int) (w : World) (h : node_Kill.f a0_0 a0_1 a0_2 a0_3 a0_4 a0_5 = some (r1, r2, r3, r4, r5, r6)) :
  Calls Tryz.prog 72 #[.agg #[.int .i64 a0_0, .int .i64 a0_1, .int .i64 a0_2, .int .i64 a0_3, .int .i64 a0_4, .int .i32 a0_5]] w fun e w' => e = .returned (.agg #[.int .i64 r1, .int .i64 r2, .int .i64 r3, .int .i64 r4, .int .i64 r5, .int .i32 r6]) ∧ Below w.heap.size w w' := by
 have hu53 := Tryz.underlying53
 have HB := Aside0.mk (Below.refl w.heap.size w)
 have H : (some (a0_0, a0_1, a0_2, a0_3, a0_4, 0)) = some (r1, r2, r3, r4, r5, r6) := h
 clear h
 simp only [Option.some.injEq, Prod.mk.injEq] at H
 obtain ⟨rfl, rfl, rfl, rfl, rfl, rfl⟩ := H
 go_enter Tryz.func72, Tryz.ntmps72
 go_wp2_with (first | ((with_reducible refine gate_dst (N := 1) rfl ?_); refine box_event ?hg (N := 1) ?hd (cs := #[.int .i64 a0_0, .int .i64 a0_1, .int .i64 a0_2, .int .i64 a0_3, .int .i64 a0_4, .int .i32 a0_5]) (t := 53) ?hr ?_; (case hd => rfl); (case hg => rfl); (case hr => first | (go_simp; done) | (go_simp; rfl)); intro gb159 hg w2 hbox hb; have n0_ := Aside0.mk (below_step (by repeat (first | (with_reducible first | exact HB.out | apply below_alloc | apply pw_below_drewN | apply below_drew1) | exact HB.out)) hb); have n1_ := Aside0.mk (hbox); have n2_ := Aside0.mk ((by rw [hg]; exact (below_size (by repeat (first | (with_reducible first | exact HB.out | apply below_alloc | apply pw_below_drewN | apply below_drew1) | exact HB.out))) : w.heap.size ≤ gb159)); have n3_ := Aside0.mk ((by rw [hg]; exact (below_size (by repeat (first | (with_reducible first | exact HB.out | apply below_alloc | apply pw_below_drewN | apply below_drew1) | exact HB.out))) : w.heap.size ≤ gb159)); clear HB; have HB := n0_; have BK159 := n1_; have GW159 := n2_; have GE159 := n3_; clear n0_ n1_ n2_ n3_; clear hb hbox hg) | ((with_reducible refine gate_dst (N := 2) rfl ?_); refine box_event ?hg (N := 2) ?hd (cs := #[.int .i64 0, .int .i64 0, .int .i64 0, .int .i64 0, .int .i64 0, .int .i32 0]) (t := 53) ?hr ?_; (case hd => rfl); (case hg => rfl); (case hr => first | (go_simp; done) | (go_simp; rfl)); intro gb160 hg w3 hbox hb; have n0_ := Aside0.mk (blk_below (g := gb159) (o := .cells #[.int .i64 a0_0, .int .i64 a0_1, .int .i64 a0_2, .int .i64 a0_3, .int .i64 a0_4, .int .i32 a0_5] 53 (0, 0)) (by (with_reducible repeat (first | refine blk_drewN ?_ _ | refine blk_drew ?_ | refine blk_alloc ?_ _)); exact BK159.out) hb); have n1_ := Aside0.mk (below_step (by repeat (first | (with_reducible first | exact HB.out | apply below_alloc | apply pw_below_drewN | apply below_drew1 | refine below_set ?_ GE159.out) | exact HB.out)) hb); have n2_ := Aside0.mk (hbox); have n3_ := Aside0.mk ((by rw [hg]; exact (below_size (by repeat (first | (with_reducible first | exact HB.out | apply below_alloc | apply pw_below_drewN | apply below_drew1 | refine below_set ?_ GE159.out) | exact HB.out))) : w.heap.size ≤ gb160)); have n4_ := Aside0.mk ((by rw [hg]; exact (below_size (by repeat (first | (with_reducible first | exact HB.out | apply below_alloc | apply pw_below_drewN | apply below_drew1 | refine below_set ?_ GE159.out) | exact HB.out))) : w.heap.size ≤ gb160)); have n5_ := Aside0.mk ((by rw [hg]; exact Nat.ne_of_lt (blk_lt (g := gb159) (o := .cells #[.int .i64 a0_0, .int .i64 a0_1, .int .i64 a0_2, .int .i64 a0_3, .int .i64 a0_4, .int .i32 a0_5] 53 (0, 0)) (by (with_reducible repeat (first | refine blk_drewN ?_ _ | refine blk_drew ?_ | refine blk_alloc ?_ _)); exact BK159.out)) : gb159 ≠ gb160)); have n6_ := Aside0.mk ((by rw [hg]; exact Nat.ne_of_gt (blk_lt (g := gb159) (o := .cells #[.int .i64 a0_0, .int .i64 a0_1, .int .i64 a0_2, .int .i64 a0_3, .int .i64 a0_4, .int .i32 a0_5] 53 (0, 0)) (by (with_reducible repeat (first | refine blk_drewN ?_ _ | refine blk_drew ?_ | refine blk_alloc ?_ _)); exact BK159.out)) : gb160 ≠ gb159)); clear BK159; clear HB; have BK159 := n0_; have HB := n1_; have BK160 := n2_; have GW160 := n3_; have GE160 := n4_; have NB159_160 := n5_; have NB160_159 := n6_; clear n0_ n1_ n2_ n3_ n4_ n5_ n6_; clear hb hbox hg; have hnb4 := NB159_160.out; have hnc4 := NB160_159.out; have hcz5_0 : w3.cell? ⟨gb159, 0, none⟩ = some (.int .i64 a0_0) := (blk_cell BK159.out 0).trans rfl; have hcz5_1 : w3.cell? ⟨gb159, 1, none⟩ = some (.int .i64 a0_1) := (blk_cell BK159.out 1).trans rfl; have hcz5_2 : w3.cell? ⟨gb159, 2, none⟩ = some (.int .i64 a0_2) := (blk_cell BK159.out 2).trans rfl; have hcz5_3 : w3.cell? ⟨gb159, 3, none⟩ = some (.int .i64 a0_3) := (blk_cell BK159.out 3).trans rfl; have hcz5_4 : w3.cell? ⟨gb159, 4, none⟩ = some (.int .i64 a0_4) := (blk_cell BK159.out 4).trans rfl; have hcz5_5 : w3.cell? ⟨gb159, 5, none⟩ = some (.int .i32 a0_5) := (blk_cell BK159.out 5).trans rfl; have hfz5_0 := blk_frozen BK159.out 0; have hfz5_1 := blk_frozen BK159.out 1; have hfz5_2 := blk_frozen BK159.out 2; have hfz5_3 := blk_frozen BK159.out 3; have hfz5_4 := blk_frozen BK159.out 4; have hfz5_5 := blk_frozen BK159.out 5; have hcz6_0 : w3.cell? ⟨gb160, 0, none⟩ = some (.int .i64 0) := (blk_cell BK160.out 0).trans rfl; have hcz6_1 : w3.cell? ⟨gb160, 1, none⟩ = some (.int .i64 0) := (blk_cell BK160.out 1).trans rfl; have hcz6_2 : w3.cell? ⟨gb160, 2, none⟩ = some (.int .i64 0) := (blk_cell BK160.out 2).trans rfl; have hcz6_3 : w3.cell? ⟨gb160, 3, none⟩ = some (.int .i64 0) := (blk_cell BK160.out 3).trans rfl; have hcz6_4 : w3.cell? ⟨gb160, 4, none⟩ = some (.int .i64 0) := (blk_cell BK160.out 4).trans rfl; have hcz6_5 : w3.cell? ⟨gb160, 5, none⟩ = some (.int .i32 0) := (blk_cell BK160.out 5).trans rfl; have hfz6_0 := blk_frozen BK160.out 0; have hfz6_1 := blk_frozen BK160.out 1; have hfz6_2 := blk_frozen BK160.out 2; have hfz6_3 := blk_frozen BK160.out 3; have hfz6_4 := blk_frozen BK160.out 4; have hfz6_5 := blk_frozen BK160.out 5))
 refine bodyPost_ret (results_cell_row rfl _ _ gb160 53 #[.int .i64 a0_0, .int .i64 a0_1, .int .i64 a0_2, .int .i64 a0_3, .int .i64 a0_4, .int .i32 0] (0, 0) _ rfl (by (with_reducible repeat (first | refine blk_drewN ?_ _ | refine blk_drew ?_ | refine blk_alloc ?_ _)); refine blk_put (cs := #[.int .i64 a0_0, .int .i64 a0_1, .int .i64 a0_2, .int .i64 a0_3, .int .i64 a0_4, .int .i32 0]) ?_ 5 _ rfl; (with_reducible repeat (first | refine blk_drewN ?_ _ | refine blk_drew ?_ | refine blk_alloc ?_ _)); refine blk_put (cs := #[.int .i64 a0_0, .int .i64 a0_1, .int .i64 a0_2, .int .i64 a0_3, .int .i64 0, .int .i32 0]) ?_ 4 _ rfl; (with_reducible repeat (first | refine blk_drewN ?_ _ | refine blk_drew ?_ | refine blk_alloc ?_ _)); refine blk_put (cs := #[.int .i64 a0_0, .int .i64 a0_1, .int .i64 a0_2, .int .i64 0, .int .i64 0, .int .i32 0]) ?_ 3 _ rfl; (with_reducible repeat (first | refine blk_drewN ?_ _ | refine blk_drew ?_ | refine blk_alloc ?_ _)); refine blk_put (cs := #[.int .i64 a0_0, .int .i64 a0_1, .int .i64 0, .int .i64 0, .int .i64 0, .int .i32 0]) ?_ 2 _ rfl; (with_reducible repeat (first | refine blk_drewN ?_ _ | refine blk_drew ?_ | refine blk_alloc ?_ _)); refine blk_put (cs := #[.int .i64 a0_0, .int .i64 0, .int .i64 0, .int .i64 0, .int .i64 0, .int .i32 0]) ?_ 1 _ rfl; (with_reducible repeat (first | refine blk_drewN ?_ _ | refine blk_drew ?_ | refine blk_alloc ?_ _)); refine blk_put (cs := #[.int .i64 0, .int .i64 0, .int .i64 0, .int .i64 0, .int .i64 0, .int .i32 0]) ?_ 0 _ rfl; (with_reducible repeat (first | refine blk_drewN ?_ _ | refine blk_drew ?_ | refine blk_alloc ?_ _)); refine blk_far ?_ NB160_159.out _; (with_reducible repeat (first | refine blk_drewN ?_ _ | refine blk_drew ?_ | refine blk_alloc ?_ _)); exact BK160.out) Tryz.underlying53 rfl (by kernel_rfl)) rfl ?_
 exact ⟨by first | rfl | (simp [errW_none, errW_some] <;> rfl) | (simp [*, errW_none, errW_some] <;> rfl), by repeat (first | (with_reducible first | exact HB.out | apply below_alloc | apply pw_below_drewN | apply below_drew1 | refine below_set ?_ GE159.out | refine below_set ?_ GE160.out) | exact HB.out)⟩
end Go.Proofs.YtmbndijbpgobeaaGreat.PWalk
end
section
namespace Go.Proofs.YtmbndijbpgobeaaGreat.PWalk
open Go.RowKit Go.Proofs.YtmbndijbpgobeaaGreatW.PrintWords Go.Proofs.YtmbndijbpgobeaaGreatW.PrintLast Go.Proofs.YtmbndijbpgobeaaGreatW.PrintMore
set_option linter.unusedVariables false
set_option linter.unusedSimpArgs false
open Go.Shelf
attribute [local go_sem] Oper.semAt_some
def idxD (p : Dot → Bool) (l : List Dot) : Int := match l.findIdx? p with | some i => (i : Int) | none => -1
theorem idxD_at {p : Dot → Bool} {l : List Dot} {k : Nat} {x : Dot} (hk : l[k]? = some x) (hx : p x = true) (hno : ∀ j y, j < k → l[j]? = some y → p y = false) : idxD p l = k := by
 unfold idxD
 rw [List.findIdx?_eq_some_iff_getElem.2 ⟨(List.getElem?_eq_some_iff.1 hk).1, by rw [(List.getElem?_eq_some_iff.1 hk).2]; exact hx, fun j hj => by rw [hno j _ hj (List.getElem?_eq_getElem _)]; simp⟩]
theorem idxD_none {p : Dot → Bool} {l : List Dot} (hno : ∀ j y, j < l.length → l[j]? = some y → p y = false) : idxD p l = -1 := by
 unfold idxD
 rw [List.findIdx?_eq_none_iff.2 fun x hx => by
  obtain ⟨j, hj⟩ := List.getElem?_of_mem hx
  exact hno j x (List.getElem?_eq_some_iff.1 hj).1 hj]
theorem noD_step {p : Dot → Bool} {l : List Dot} {k : Nat} {x : Dot} (hk : l[k]? = some x) (hx : p x = false) (hno : ∀ j y, j < k → l[j]? = some y → p y = false) : ∀ j y, j < k + 1 → l[j]? = some y → p y = false := by
 intro j y hj hy
 rcases Nat.lt_succ_iff_lt_or_eq.1 hj with h | h
 ·
  exact hno j y h hy
 ·
  subst h; rw [hk] at hy; cases hy; exact hx
set_option maxHeartbeats 400000 in
theorem IndexFuncDot.calls (p : Dot → Bool) (fn : Nat) (A0 : Option Addr) (c0 : Nat) (l0 : List Dot) (w : World) (hr0 : Kd.C k25 w A0 l0.length l0) (hc0 : l0.length ≤ c0)
  (hcall : ∀ args W, (callFunc fn args).run Tryz.prog W = .ok (.enter fn args) W)
  (hp : ∀ x W, Calls Tryz.prog fn #[vDot x] W fun e W' => e = .returned (.bool (p x)) ∧ Below W.heap.size W W') :
  Calls Tryz.prog 94 #[.slice A0 l0.length c0, .func (.func fn) #[] #[]] w fun e w' => e = .returned (.int .i64 (idxD p l0)) ∧ Below w.heap.size w w' := by
 have hm := Kd.C_max hr0
 have hu := Tryz.underlying25
 have HR := Aside0.mk hr0
 have HP := Aside0.mk hp
 have HC := Aside0.mk hc0
 clear hr0 hp hc0
 go_enter Tryz.func94, Tryz.ntmps94
 go_wp2
 go_loopw [5, 8] (fun _ i wr => ∃ k : Nat, k ≤ l0.length ∧ i = .int .i64 k ∧ Aside0 (∀ j y, j < k → l0[j]? = some y → p y = false) ∧ Aside0 (Below w.heap.size w wr)) (fun _ i _ => l0.length - (intOf i).toNat)
 case atStart => exact ⟨0, Nat.zero_le _, rfl, ⟨fun j y hj => absurd hj (Nat.not_lt_zero _)⟩, ⟨Below.refl _ _⟩⟩
 case round =>
  obtain ⟨k, hk, rfl, hno, hb⟩ := hrel
  by_cases hlt : k < l0.length
  ·
   obtain ⟨x, hx⟩ : ∃ x, Aside0 (l0[k]? = some x) := ⟨_, ⟨List.getElem?_eq_getElem hlt⟩⟩
   obtain ⟨ad, e, h0, h1⟩ := dot_at HR.out hb.out k x hx.out
   subst e
   cases hpx : p x with
   | true =>
    have HX := Aside0.mk hpx
    clear hpx
    go_wp2
    refine (HP.out x _).mono ?_
    rintro e W' ⟨rfl, hb2⟩
    rw [HX.out]
    go_wp2
    go_ret
    exact ⟨by rw [idxD_at hx.out HX.out hno.out]; rfl, below_then hb.out hb.out.size hb2⟩
   | false =>
    have HX := Aside0.mk hpx
    clear hpx
    go_wp2
    refine (HP.out x _).mono ?_
    rintro e W' ⟨rfl, hb2⟩
    rw [HX.out]
    go_wp2
    go_roundw
    case rel => exact ⟨k + 1, by omega, by go_num, ⟨noD_step hx.out HX.out hno.out⟩, ⟨below_then hb.out hb.out.size hb2⟩⟩
    case measure => simp [intOf]; omega
  ·
   go_wp2
   go_ret
   obtain rfl : k = l0.length := by omega
   exact ⟨by rw [idxD_none hno.out]; rfl, hb.out⟩
set_option maxHeartbeats 400000 in
theorem ContainsFuncDot.calls (p : Dot → Bool) (fn : Nat) (A0 : Option Addr) (c0 : Nat) (l0 : List Dot) (w : World) (hr0 : Kd.C k25 w A0 l0.length l0) (hc0 : l0.length ≤ c0)
  (hcall : ∀ args W, (callFunc fn args).run Tryz.prog W = .ok (.enter fn args) W)
  (hp : ∀ x W, Calls Tryz.prog fn #[vDot x] W fun e W' => e = .returned (.bool (p x)) ∧ Below W.heap.size W W') :
  Calls Tryz.prog 68 #[.slice A0 l0.length c0, .func (.func fn) #[] #[]] w fun e w' => e = .returned (.bool (l0.any p)) ∧ Below w.heap.size w w' := by
 have HI := Aside0.mk (IndexFuncDot.calls p fn A0 c0 l0 w hr0 hc0 hcall hp)
 clear hr0 hc0 hp hcall
 go_enter Tryz.func68, Tryz.ntmps68
 go_wp2_with fail
 refine HI.out.mono ?_
 rintro e W' ⟨rfl, hb⟩
 have hi : decide (idxD p l0 ≥ 0) = l0.any p := by
  unfold idxD
  cases h : l0.findIdx? p with
  | none => simp [List.findIdx?_eq_none_iff] at h; simp; exact h
  | some i => simp; exact ⟨_, List.getElem_mem (List.findIdx?_eq_some_iff_getElem.1 h).1, (List.findIdx?_eq_some_iff_getElem.1 h).2.1⟩
 have HI2 := Aside0.mk hi
 clear hi
 go_wp2
 go_ret
 exact ⟨by rw [← HI2.out]; rfl, hb⟩
theorem badDot_call (d : Dot) (W : World) : Calls Tryz.prog 69 #[vDot d] W fun e W' => e = .returned (.bool (!dotOk d)) ∧ Below W.heap.size W W' := by
 have HX := Aside0.mk (blk_new W (dotC d))
 have HB := Aside0.mk (Gr.alloc W (dotC d)).below
 go_enter Tryz.func69, Tryz.ntmps69
 go_wp2_with fail
 refine (dot_Valid.calls d.f0 d.f1 (dotOk d) _ (by rw [dotValid_is])).mono ?_
 rintro e V ⟨rfl, hb⟩
 have HB2 := Aside0.mk (below_more HB.out hb)
 clear hb
 go_wp2
 go_ret
 exact ⟨rfl, HB2.out⟩
def deadN (x : Node) : Node := ⟨x.f0, x.f1, x.f2, 0⟩
/-- The nodes with some dots were deleted, one after the other. -/
def killFrom (ks : List Dot) : List Node → List Dot → Option (List Node)
 | o, [] => some o
 | o, d :: ds => if hasK ks d = true then killFrom ks (o.modify (posK ks d) deadN) ds else none
def killOut : Option (List Node) → List Node × Int
 | some o => (o, 0)
 | none => ([], 9)
def store_Kill.f (l0 : List Node) (l1 : List Dot) : Option (List Node × Int) :=
 if l0.length ≤ 1000000 ∧ l1.length ≤ 1000000 then some (if storeOk l0 = true ∧ l1.all dotOk = true then killOut (killFrom (l0.map (·.f0)) l0 l1) else ([], 2)) else none
theorem modify_dots (o : List Node) (k : Nat) : (o.modify k deadN).map (·.f0) = o.map (·.f0) := by
 apply List.ext_getElem?
 intro i
 rw [List.getElem?_map, List.getElem?_map, List.getElem?_modify]
 split
 ·
  cases o[i]? <;> rfl
 ·
  cases o[i]? <;> rfl
theorem modify_set (o : List Node) (k : Nat) (x : Node) (h : o[k]? = some x) : o.set k (deadN x) = o.modify k deadN := by
 apply List.ext_getElem?
 intro i
 rw [List.getElem?_set, List.getElem?_modify]
 have hk := (List.getElem?_eq_some_iff.1 h).1
 by_cases e : k = i
 ·
  subst e
  simp [hk, (List.getElem?_eq_some_iff.1 h).2]
 ·
  simp [e]
set_option maxHeartbeats 1000000 in
set_option maxRecDepth 100000 in
theorem store_Kill.calls (A0 : Option Addr) (c0 : Nat) (ll : List Node) (A1 : Option Addr) (c1 : Nat) (ds : List Dot) (r1 : List Node) (r2 : Int) (w : World) (hr0 : Kd.C k53 w A0 ll.length ll) (hc0 : ll.length ≤ c0) (hr1 : Kd.C k25 w A1 ds.length ds) (hc1 : ds.length ≤ c1) (h : store_Kill.f ll ds = some (r1, r2)) :
  Calls Tryz.prog 44 #[.slice A0 ll.length c0, .slice A1 ds.length c1] w fun e w' => ∃ v0_ : Value, e = .returned (.tuple #[v0_, .int .i64 r2]) ∧ Kd.R k53 53 w' w.heap.size (fun _ => True) v0_ r1 ∧ Below w.heap.size w w' := by
 unfold store_Kill.f at h
 by_cases hl : ll.length ≤ 1000000 ∧ ds.length ≤ 1000000
 rotate_left
 ·
  rw [if_neg hl] at h; cases h
 rw [if_pos hl] at h
 have HH := Aside0.mk (Option.some.inj h)
 have HR := Aside0.mk hr0
 have HC := Aside0.mk hc0
 have HRD := Aside0.mk hr1
 have HL := Aside0.mk hl
 have hmd := Kd.C_max hr1
 obtain ⟨b, Hb⟩ : ∃ b, Aside0 (storeOk ll = b) := ⟨_, ⟨rfl⟩⟩
 obtain ⟨b2, Hb2⟩ : ∃ b, Aside0 (ds.all dotOk = b) := ⟨_, ⟨rfl⟩⟩
 have HVAL := Aside0.mk (store_Valid.calls A0 c0 ll b w HR.out HC.out (by unfold store_Valid.f; rw [if_pos HL.out.1, Hb.out]))
 have HCF : Aside0 (∀ W, Below w.heap.size w W → Calls Tryz.prog 68 #[.slice A1 ds.length c1, .func (.func 69) #[] #[]] W fun e W' => e = .returned (.bool (!b2)) ∧ Below W.heap.size W W') := ⟨fun W hb => by
  have := ContainsFuncDot.calls (fun d => !dotOk d) 69 A1 c1 ds W (Kd.C_below HRD.out hb) hc1 (enters_of Tryz.func69 (by kernel_rfl) rfl) badDot_call
  rwa [show (ds.any fun d => !dotOk d) = !b2 by rw [← Hb2.out, List.not_all_eq_any_not]] at this⟩
 rw [Hb.out, Hb2.out] at HH
 clear h hr0 hc0 hr1 hc1 hl
 go_enter Tryz.func44, Tryz.ntmps44
 go_wp2_with fail
 refine HVAL.out.mono ?_
 rintro e V1 ⟨rfl, hb⟩
 have HB := Aside0.mk hb
 clear hb HVAL
 cases b with
 | false =>
  obtain ⟨rfl, rfl⟩ : r1 = [] ∧ r2 = 2 := by
   have := HH.out
   rw [if_neg (by simp)] at this
   cases this
   exact ⟨rfl, rfl⟩
  go_wp2
  go_ret2
  exact ⟨_, rfl, Kd.R_nil _ _ _ _ _, HB.out⟩
 | true =>
  go_wp2_with fail
  refine (HCF.out V1 HB.out).mono ?_
  rintro e V2 ⟨rfl, hb⟩
  have HB := Aside0.mk (below_more HB.out hb)
  clear hb HCF
  cases b2 with
  | false =>
   obtain ⟨rfl, rfl⟩ : r1 = [] ∧ r2 = 2 := by
    have := HH.out
    rw [if_neg (by simp)] at this
    cases this
    exact ⟨rfl, rfl⟩
   go_wp2
   go_ret2
   exact ⟨_, rfl, Kd.R_nil _ _ _ _ _, HB.out⟩
  | true =>
   go_wp2_with fail
   refine (CloneNode.calls A0 c0 ll V2 (Kd.C_below HR.out HB.out) HL.out.1).mono ?_
   rintro e V3 ⟨v3, rfl, hR3, hb⟩
   have HB3 := Aside0.mk hb
   obtain ⟨A3, c3, rfl⟩ := RN.slice hR3
   obtain ⟨n, Hn⟩ : ∃ n, Aside0 (ll.length = n) := ⟨_, ⟨rfl⟩⟩
   rw [Hn.out] at hR3 ⊢
   have HR3 := Aside0.mk hR3
   have HK := Aside0.mk (show killFrom (ll.map (·.f0)) ll (ds.drop 0) = killFrom (ll.map (·.f0)) ll ds by rw [List.drop_zero])
   obtain ⟨kr, Hkr⟩ : ∃ kr, Aside0 (killFrom (ll.map (·.f0)) ll ds = kr) := ⟨_, ⟨rfl⟩⟩
   rw [Hkr.out] at HK HH
   have HHH := Aside0.mk (show killOut kr = (r1, r2) by have := HH.out; rw [if_pos (by simp)] at this; exact this)
   obtain ⟨ks, Hks⟩ : ∃ ks, Aside0 (ll.map (·.f0) = ks) := ⟨_, ⟨rfl⟩⟩
   rw [Hks.out] at HK
   have HKI : Aside0 (incB ks = true) := ⟨by have := Hb.out; unfold storeOk at this; rw [Bool.and_eq_true] at this; rw [← Hks.out]; exact this.2⟩
   clear hb hR3
   go_wp2
   go_loopw [22] (fun v22 wr => ∃ (j : Nat) (dk : List Node), v22 = .int .i64 j ∧ j ≤ ds.length ∧ Aside0 (killFrom ks dk (ds.drop j) = kr) ∧ Aside0 (dk.map (·.f0) = ks) ∧ Aside0 (Kd.R k53 53 wr V2.heap.size (fun _ => True) (.slice A3 n c3) dk) ∧ Aside0 (Below V2.heap.size V2 wr)) (fun v22 _ => ds.length - (intOf v22).toNat)
   case atStart => exact ⟨0, ll, rfl, Nat.zero_le _, HK, Hks, HR3, HB3⟩
   case round =>
    obtain ⟨j, dk, rfl, hj, HKF, HKS, HO, HW⟩ := hrel
    by_cases hlt : j < ds.length
    ·
     obtain ⟨d, hd⟩ : ∃ d, Aside0 (ds[j]? = some d) := ⟨_, ⟨List.getElem?_eq_getElem hlt⟩⟩
     obtain ⟨ad, e, h0, h1⟩ := dot_at HRD.out (below_more HB.out HW.out) j d hd.out
     have HDR := Aside0.mk (show ds.drop j = d :: ds.drop (j + 1) by rw [List.drop_eq_getElem_cons hlt, (List.getElem?_eq_some_iff.1 hd.out).2])
     subst e
     have hdl : dk.length = n := ((Kd.R_reads' HO.out).1).symm
     have HDL := Aside0.mk hdl
     have HN6 : Aside0 (n ≤ 1000000) := ⟨by rw [← Hn.out]; exact HL.out.1⟩
     have HX := Aside0.mk (blk_new wr (dotC d))
     clear hdl
     go_wp2_with fail
     refine (storefind_call dk A3 n c3 d _ ks HKS.out HKI.out HDL.out HN6.out (Kd.C_below (show Kd.C k53 wr A3 n dk by have := (Kd.R_reads' HO.out).2.2; rwa [HDL.out] at this) (below_alloc (Below.refl _ wr) (dotC d)))).mono ?_
     rintro e V ⟨rfl, hb⟩
     have HBV := Aside0.mk (below_more (below_alloc (Below.refl _ wr) (dotC d)) hb)
     clear hb h0 h1 HX
     obtain ⟨q, Hq⟩ : ∃ q, Aside0 (posK ks d = q) := ⟨_, ⟨rfl⟩⟩
     obtain ⟨b3, Hb3⟩ : ∃ b, Aside0 (hasK ks d = b) := ⟨_, ⟨rfl⟩⟩
     rw [Hq.out, Hb3.out]
     cases b3 with
     | false =>
      obtain ⟨rfl, rfl⟩ : r1 = [] ∧ r2 = 9 := by
       have h1 := HKF.out
       rw [HDR.out] at h1
       unfold killFrom at h1
       rw [if_neg (by rw [Hb3.out]; decide)] at h1
       have := HHH.out
       rw [← h1] at this
       cases this
       exact ⟨rfl, rfl⟩
      go_wp2
      go_ret2
      exact ⟨_, rfl, Kd.R_nil _ _ _ _ _, below_more HB.out (below_more HW.out HBV.out)⟩
     | true =>
      have hqn : q < n := by
       have := hasK_lt Hb3.out
       rw [Hq.out, ← HKS.out, List.length_map, HDL.out] at this
       exact this
      obtain ⟨x, hx⟩ : ∃ x, Aside0 (dk[q]? = some x) := ⟨_, ⟨List.getElem?_eq_getElem (by rw [HDL.out]; exact hqn)⟩⟩
      have HOV := Aside0.mk (own_more HO.out HBV.out)
      obtain ⟨g, rfl⟩ : ∃ g, A3 = some ⟨g, 0, none⟩ := by
       obtain ⟨g, cap, h1, _⟩ := Kd.R_form HO.out (by rw [HDL.out]; omega)
       cases h1
       exact ⟨g, rfl⟩
      obtain ⟨y0, y1, y2, y3, y4, y5⟩ := row_six HOV.out hx.out
      go_wp2_with fail
      refine (node_Kill.calls x.f0.f0 x.f0.f1 x.f1.f0 x.f1.f1 x.f2 x.f3 _ _ _ _ _ _ V rfl).mono ?_
      rintro e V2' ⟨rfl, hb⟩
      have HBV2 := Aside0.mk (below_more HBV.out hb)
      have HOW := Aside0.mk (own_more HOV.out hb)
      clear hb y0 y1 y2 y3 y4 y5
      go_wp2_with (refine wpList_putNode rfl (.tmp 41) (.tmp 40) rfl rfl (deadN x) HOW.out hqn rfl rfl ?_; intro V4 hR4 hg4)
      have HB4 := Aside0.mk (grown_on hg4 (below_more HW.out HBV2.out) (fun k e => by cases e; exact R_base HO.out _ rfl))
      go_roundw
      case rel => exact ⟨j + 1, dk.set q (deadN x), by go_num, by omega, ⟨by rw [modify_set _ _ _ hx.out, ← Hq.out]; have h1 := HKF.out; rw [HDR.out] at h1; unfold killFrom at h1; rw [if_pos Hb3.out] at h1; exact h1⟩, ⟨by rw [modify_set _ _ _ hx.out, modify_dots]; exact HKS.out⟩, ⟨hR4⟩, HB4⟩
      case measure => simp [intOf]; omega
    ·
     obtain rfl : j = ds.length := by omega
     obtain ⟨rfl, rfl⟩ : r1 = dk ∧ r2 = 0 := by
      have h1 := HKF.out
      rw [List.drop_of_length_le (Nat.le_refl _)] at h1
      unfold killFrom at h1
      have := HHH.out
      rw [← h1] at this
      cases this
      exact ⟨rfl, rfl⟩
     have HO2 := Aside0.mk (Kd.R_lower HO.out HB.out.size)
     go_wp2
     go_ret2
     exact ⟨_, rfl, HO2.out, below_more HB.out HW.out⟩
end Go.Proofs.YtmbndijbpgobeaaGreat.PWalk
end
section
namespace Go.Proofs.YtmbndijbpgobeaaGreat.PWalk
open Go.RowKit Go.Proofs.YtmbndijbpgobeaaGreatW.PrintWords Go.Proofs.YtmbndijbpgobeaaGreatW.PrintLast Go.Proofs.YtmbndijbpgobeaaGreatW.PrintMore
attribute [local go_sem] max2_int max_two
set_option linter.unusedVariables false
set_option linter.unusedSimpArgs false
def index_Runes.l0 : Nat → Int → List Int → List (S53) → Int → Int → Option (List Int × Int)
 | 0, _, _, _, _, _ => none
 | k + 1, x5, x6, x14, x15, x16 => if x16 < x15 then (if 0 ≤ x16 then (if x16 < (x14.length : Int) then (if x6.length < 35184372088832 then (index_Runes.l0 k x5 (x6 ++ [(rd_T53 x14 x16).f3]) x14 x15 (wrap64 (x16 + 1))) else (none)) else (none)) else (none)) else (some (x6, x5))
def index_Runes.f (k : Nat) (l0 : List (S53)) : Option (List Int × Int) := (index_visible.f l0).bind fun bt216 => (index_Runes.l0 k bt216.2 ([] : List Int) bt216.1 (bt216.1.length : Int) 0)
set_option maxHeartbeats 8000000 in
set_option maxRecDepth 100000 in
theorem index_Runes.calls (k : Nat) (A0 : Option Addr) (c0 : Nat) (l0 : List (S53)) (r1 : List Int) (r2 : Int) (w : World) (hr0 : Kd.C k53 w A0 l0.length l0) (hc0 : l0.length ≤ c0) (h : index_Runes.f k l0 = some (r1, r2)) :
  Calls Tryz.prog 56 #[.slice A0 l0.length c0] w fun e w' => ∃ v0_ : Value, e = .returned (.tuple #[v0_, .int .i64 r2]) ∧ Kd.R (Kd.int .i32) 21 w' w.heap.size (fun _ => True) v0_ r1 ∧ Below w.heap.size w w' := by
 have hu53 := Tryz.underlying53
 have HR0 := Aside0.mk hr0
 have HC0 := Aside0.mk hc0
 clear hr0 hc0
 have HB := Aside0.mk (Below.refl w.heap.size w)
 have H : ((index_visible.f l0).bind fun bt216 => (index_Runes.l0 k bt216.2 ([] : List Int) bt216.1 (bt216.1.length : Int) 0)) = some (r1, r2) := h
 clear h
 replace H := Option.bind_eq_some_iff.mp H
 obtain ⟨⟨t216, t217⟩, A20, H⟩ := H
 replace H : (index_Runes.l0 k t217 ([] : List Int) t216 (t216.length : Int) 0) = some (r1, r2) := H
 have A2 := Aside0.mk A20
 clear A20
 have H' := Aside0.mk H
 clear H
 go_enter Tryz.func56, Tryz.ntmps56
 go_wp2_with (first | ((with_reducible refine gate_callee (f := 64) rfl ?_); refine goesL_ (some 11) rfl rfl Tryz.func64 (by kernel_rfl) rfl #[.slice A0 l0.length c0] rfl (by (try simp only [List.map_toArray, List.map_cons, List.map_nil]); first | done | rfl | (simp only [List.length_drop, List.length_take]; rfl)) ?_; (with_reducible refine (index_visible.calls _ _ l0 t216 t217 _ ?side1 ?side2 A2.out).mono ?_); (case side1 => repeat (first | exact HR0.out | (with_reducible refine Kd.C_alloc ?_ _) | (with_reducible refine Kd.C_drewN ?_ _) | (with_reducible refine Kd.C_drew ?_))); (case side2 => exact HC0.out); rintro e w3 ⟨v218, rfl, ho0, hb⟩; refine ⟨_, rfl, ?_⟩; have n0_ := Aside0.mk (Kd.R_lower ho0 (below_size (by repeat (first | (with_reducible first | exact HB.out | apply below_alloc | apply pw_below_drewN | apply below_drew1) | exact HB.out)))); have n1_ := Aside0.mk (below_step (by repeat (first | (with_reducible first | exact HB.out | apply below_alloc | apply pw_below_drewN | apply below_drew1) | exact HB.out)) hb); clear HB; have HO219 := n0_; have HB := n1_; clear n0_ n1_; (try clear hb); (try clear hb2); (try clear hk); (try clear hi); (try clear ho0); obtain ⟨Ao4, co4, eo4⟩ := Kd.R_slice HO219.out; subst eo4))
 go_loopg [6, 16] k (fun kq v6 v16 w' => ∃ (x6_1 : List Int) (x16_1 : Int), v16 = .int .i64 x16_1 ∧ Aside0 (index_Runes.l0 kq t217 x6_1 t216 (t216.length : Int) x16_1 = some (r1, r2)) ∧ Aside0 (kq ≤ k) ∧ Aside0 (Kd.R (Kd.int .i32) 21 w' w.heap.size (fun _ => True) v6 x6_1) ∧ Aside0 (Kd.R k53 53 w' w.heap.size (fun _ => True) (.slice Ao4 t216.length co4) t216) ∧ Aside0 (Below w.heap.size w w'))
 case atStart => exact ⟨(([] : List Int)), (0), (by first | rfl | (simp; done) | (simp [*]; done)), H', ⟨Nat.le_refl _⟩, ⟨by first | exact Kd.R_nil _ _ _ _ _ | exact Kd.N_nil _ _ _ _ _ | exact Kd.V_nil _ _ _ _ _ | exact Kd.Q_nil _ _ _ _ _ | exact Kd.S_nil _ _ _ _ _⟩, ⟨by (with_reducible repeat (first | apply Kd.R_alloc | apply Kd.R_drewN | apply Kd.R_drew)); exact HO219.out⟩, ⟨by repeat (first | (with_reducible first | exact HB.out | apply below_alloc | apply pw_below_drewN | apply below_drew1) | exact HB.out)⟩⟩
 case round =>
  clear H'
  try clear p2
  obtain ⟨x6_1, x16_1, rfl, HA, HK1, HO_6, HO_14, HB⟩ := hrel
  cases gk with
  | zero => exact absurd HA.out (by simp [index_Runes.l0])
  | succ k1 =>
   have H := HA.out
   clear HA
   simp only [index_Runes.l0] at H
   by_cases c5 : x16_1 < (t216.length : Int)
   ·
    rw [if_pos c5] at H
    have c5b0 : decide (x16_1 < (t216.length : Int)) = true := decide_eq_true c5
    clear c5
    by_cases c6 : 0 ≤ x16_1
    ·
     rw [if_pos c6] at H
     have c6b0 : decide (0 ≤ x16_1) = true := decide_eq_true c6
     clear c6
     by_cases c7 : x16_1 < (t216.length : Int)
     ·
      rw [if_pos c7] at H
      have c7b0 : decide (x16_1 < (t216.length : Int)) = true := decide_eq_true c7
      clear c7
      by_cases c8 : x6_1.length < 35184372088832
      ·
       rw [if_pos c8] at H
       have LMc8 := Aside0.mk c8
       clear c8
       obtain ⟨y222, hy222⟩ : ∃ y_ : List Int, y_ = (x6_1 ++ [(rd_T53 t216 x16_1).f3]) := ⟨_, rfl⟩
       replace H : (index_Runes.l0 k1 t217 y222 t216 (t216.length : Int) (wrap64 (x16_1 + 1))) = some (r1, r2) := by first | (rw [hy222]; with_reducible exact H) | (have H2_ := (Option.bind_some _ _).symm.trans H; rw [hy222]; with_reducible exact H2_) | (have H2_ := (Option.bind_some _ _).symm.trans H; with_reducible exact H2_) | with_reducible exact H | (rw [hy222]; exact H) | exact H
       have Ny222 := Aside0.mk hy222
       clear hy222
       have H' := Aside0.mk H
       clear H
       have p220 : 0 ≤ (x16_1 : Int) := of_decide_eq_true (by first | (with_reducible assumption) | assumption)
       have q220 : x16_1 < (t216.length : Int) := of_decide_eq_true (by first | (with_reducible assumption) | assumption)
       obtain ⟨ad220, e220, hx220_0, hx220_1, hx220_2, hx220_3, hx220_4, hx220_5⟩ := at_T53 (Kd.R_reads' HO_14.out).2.2 x16_1 p220 q220
       cases e220
       replace p220 := eq_true p220
       replace q220 := eq_true q220
       go_wp2_with (first | ((with_reducible refine gate_dst (N := 8) rfl ?_); refine box_event ?hg (N := 8) ?hd (cs := #[.int .i64 0, .int .i64 0, .int .i64 0, .int .i64 0, .int .i64 0, .int .i32 0]) (t := 53) ?hr ?_; (case hd => rfl); (case hg => rfl); (case hr => first | (go_simp; done) | (go_simp; rfl)); intro gb221 hg w9 hbox hb; have n0_ := Aside0.mk (Kd.R_below (by (with_reducible repeat (first | apply Kd.R_alloc | apply Kd.R_drewN | apply Kd.R_drew)); exact HO_6.out) hb); have n1_ := Aside0.mk (Kd.R_below (Kd.R_elderB (by (with_reducible repeat (first | apply Kd.R_alloc | apply Kd.R_drewN | apply Kd.R_drew)); exact HO_14.out) gb221 (Nat.le_of_eq hg.symm)) hb); have n2_ := Aside0.mk (below_step (by repeat (first | (with_reducible first | exact HB.out | apply below_alloc | apply pw_below_drewN | apply below_drew1) | exact HB.out)) hb); have n3_ := Aside0.mk (hbox); have n4_ := Aside0.mk ((by rw [hg]; exact (below_size (by repeat (first | (with_reducible first | exact HB.out | apply below_alloc | apply pw_below_drewN | apply below_drew1) | exact HB.out))) : w.heap.size ≤ gb221)); have n5_ := Aside0.mk ((by rw [hg]; exact (below_size (by repeat (first | (with_reducible first | exact HB.out | apply below_alloc | apply pw_below_drewN | apply below_drew1) | exact HB.out))) : w.heap.size ≤ gb221)); clear HO_6; clear HO_14; clear HB; have HO_6 := n0_; have HO_14 := n1_; have HB := n2_; have BK221 := n3_; have GW221 := n4_; have GE221 := n5_; clear n0_ n1_ n2_ n3_ n4_ n5_; clear hb hbox hg; have hcz10_0 : w9.cell? ⟨gb221, 0, none⟩ = some (.int .i64 0) := (blk_cell BK221.out 0).trans rfl; have hcz10_1 : w9.cell? ⟨gb221, 1, none⟩ = some (.int .i64 0) := (blk_cell BK221.out 1).trans rfl; have hcz10_2 : w9.cell? ⟨gb221, 2, none⟩ = some (.int .i64 0) := (blk_cell BK221.out 2).trans rfl; have hcz10_3 : w9.cell? ⟨gb221, 3, none⟩ = some (.int .i64 0) := (blk_cell BK221.out 3).trans rfl; have hcz10_4 : w9.cell? ⟨gb221, 4, none⟩ = some (.int .i64 0) := (blk_cell BK221.out 4).trans rfl; have hcz10_5 : w9.cell? ⟨gb221, 5, none⟩ = some (.int .i32 0) := (blk_cell BK221.out 5).trans rfl; have hfz10_0 := blk_frozen BK221.out 0; have hfz10_1 := blk_frozen BK221.out 1; have hfz10_2 := blk_frozen BK221.out 2; have hfz10_3 := blk_frozen BK221.out 3; have hfz10_4 := blk_frozen BK221.out 4; have hfz10_5 := blk_frozen BK221.out 5) | ((with_reducible refine gate_builtin (b := .append) (xs := #[.tmp 20, .tmp 23]) rfl ?_); at_builtin; refine Kd.R_append (Kd.int .i32) (w0 := w) w.heap.size rfl (.tmp 20) (.tmp 23) 26 21 (.int .i32 0) 4 rfl Tryz.underlying26 info21 rfl (by decide) (by omega) u6 x6_1 ((rd_T53 t216 x16_1).f3) [.int .i32 ((rd_T53 t216 x16_1).f3)] (fun _ => True) (fun _ => False) rfl (by first | (go_simp; done) | (go_simp; rfl)) ?aP (fun _ hk => hk.elim) ?aF ?aO ?aB ?aS ?aL ?_; (case aP => exact rfl); (case aB => exact (by repeat (first | (with_reducible first | exact HB.out | apply below_alloc | apply pw_below_drewN | apply below_drew1 | refine below_set ?_ GE221.out) | exact HB.out))); (case aF => exact (fun _ _ => trivial)); (case aO => exact (by (with_reducible repeat (first | apply Kd.R_alloc | apply Kd.R_drewN | apply Kd.R_drew)); exact Kd.R_mono (Kd.R_far (p := ⟨gb221, 5, none⟩) (Kd.R_far (p := ⟨gb221, 4, none⟩) (Kd.R_far (p := ⟨gb221, 3, none⟩) (Kd.R_far (p := ⟨gb221, 2, none⟩) (Kd.R_far (p := ⟨gb221, 1, none⟩) (Kd.R_far (p := ⟨gb221, 0, none⟩) (Kd.R_types HO_6.out BK221.out (by decide)) (fun _ hk => hk.2) (.int .i64 ((rd_T53 t216 x16_1).f0.f0))) (fun _ hk => hk.2) (.int .i64 ((rd_T53 t216 x16_1).f0.f1))) (fun _ hk => hk.2) (.int .i64 ((rd_T53 t216 x16_1).f1.f0))) (fun _ hk => hk.2) (.int .i64 ((rd_T53 t216 x16_1).f1.f1))) (fun _ hk => hk.2) (.int .i64 ((rd_T53 t216 x16_1).f2))) (fun _ hk => hk.2) (.int .i32 ((rd_T53 t216 x16_1).f3))) (fun _ hk => trivial))); (case aS => exact (below_size (by repeat (first | (with_reducible first | exact HB.out | apply below_alloc | apply pw_below_drewN | apply below_drew1 | refine below_set ?_ GE221.out) | exact HB.out)))); (case aL => have := LMc8.out; omega); intro v223 w11 ho hb hg hat; rw [← Ny222.out] at ho; have n0_ := Aside0.mk (Kd.R_over' (by (with_reducible repeat (first | apply Kd.R_alloc | apply Kd.R_drewN | apply Kd.R_drew)); exact (Kd.R_mono (Kd.R_far (p := ⟨gb221, 5, none⟩) (Kd.R_far (p := ⟨gb221, 4, none⟩) (Kd.R_far (p := ⟨gb221, 3, none⟩) (Kd.R_far (p := ⟨gb221, 2, none⟩) (Kd.R_far (p := ⟨gb221, 1, none⟩) (Kd.R_far (p := ⟨gb221, 0, none⟩) (Kd.R_mono HO_14.out (fun k_ hk => (⟨hk, hk.2⟩ : _ ∧ k_ ≠ gb221))) (fun _ hk => hk.2) (.int .i64 ((rd_T53 t216 x16_1).f0.f0))) (fun _ hk => hk.2) (.int .i64 ((rd_T53 t216 x16_1).f0.f1))) (fun _ hk => hk.2) (.int .i64 ((rd_T53 t216 x16_1).f1.f0))) (fun _ hk => hk.2) (.int .i64 ((rd_T53 t216 x16_1).f1.f1))) (fun _ hk => hk.2) (.int .i64 ((rd_T53 t216 x16_1).f2))) (fun _ hk => hk.2) (.int .i32 ((rd_T53 t216 x16_1).f3))) (fun _ h_ => h_.1))) (Kd.R_typed (by (with_reducible repeat (first | apply Kd.R_alloc | apply Kd.R_drewN | apply Kd.R_drew)); exact (Kd.R_mono (Kd.R_far (p := ⟨gb221, 5, none⟩) (Kd.R_far (p := ⟨gb221, 4, none⟩) (Kd.R_far (p := ⟨gb221, 3, none⟩) (Kd.R_far (p := ⟨gb221, 2, none⟩) (Kd.R_far (p := ⟨gb221, 1, none⟩) (Kd.R_far (p := ⟨gb221, 0, none⟩) (Kd.R_types HO_6.out BK221.out (by decide)) (fun _ hk => hk.2) (.int .i64 ((rd_T53 t216 x16_1).f0.f0))) (fun _ hk => hk.2) (.int .i64 ((rd_T53 t216 x16_1).f0.f1))) (fun _ hk => hk.2) (.int .i64 ((rd_T53 t216 x16_1).f1.f0))) (fun _ hk => hk.2) (.int .i64 ((rd_T53 t216 x16_1).f1.f1))) (fun _ hk => hk.2) (.int .i64 ((rd_T53 t216 x16_1).f2))) (fun _ hk => hk.2) (.int .i32 ((rd_T53 t216 x16_1).f3))) (fun _ h_ => h_.1)))) (by decide) hg); have n1_ := Aside0.mk (blk_grown (g := gb221) (o := .cells #[.int .i64 ((rd_T53 t216 x16_1).f0.f0), .int .i64 ((rd_T53 t216 x16_1).f0.f1), .int .i64 ((rd_T53 t216 x16_1).f1.f0), .int .i64 ((rd_T53 t216 x16_1).f1.f1), .int .i64 ((rd_T53 t216 x16_1).f2), .int .i32 ((rd_T53 t216 x16_1).f3)] 53 (0, 0)) (by (with_reducible repeat (first | refine blk_drewN ?_ _ | refine blk_drew ?_ | refine blk_alloc ?_ _)); refine blk_put (cs := #[.int .i64 ((rd_T53 t216 x16_1).f0.f0), .int .i64 ((rd_T53 t216 x16_1).f0.f1), .int .i64 ((rd_T53 t216 x16_1).f1.f0), .int .i64 ((rd_T53 t216 x16_1).f1.f1), .int .i64 ((rd_T53 t216 x16_1).f2), .int .i32 0]) ?_ 5 _ rfl; (with_reducible repeat (first | refine blk_drewN ?_ _ | refine blk_drew ?_ | refine blk_alloc ?_ _)); refine blk_put (cs := #[.int .i64 ((rd_T53 t216 x16_1).f0.f0), .int .i64 ((rd_T53 t216 x16_1).f0.f1), .int .i64 ((rd_T53 t216 x16_1).f1.f0), .int .i64 ((rd_T53 t216 x16_1).f1.f1), .int .i64 0, .int .i32 0]) ?_ 4 _ rfl; (with_reducible repeat (first | refine blk_drewN ?_ _ | refine blk_drew ?_ | refine blk_alloc ?_ _)); refine blk_put (cs := #[.int .i64 ((rd_T53 t216 x16_1).f0.f0), .int .i64 ((rd_T53 t216 x16_1).f0.f1), .int .i64 ((rd_T53 t216 x16_1).f1.f0), .int .i64 0, .int .i64 0, .int .i32 0]) ?_ 3 _ rfl; (with_reducible repeat (first | refine blk_drewN ?_ _ | refine blk_drew ?_ | refine blk_alloc ?_ _)); refine blk_put (cs := #[.int .i64 ((rd_T53 t216 x16_1).f0.f0), .int .i64 ((rd_T53 t216 x16_1).f0.f1), .int .i64 0, .int .i64 0, .int .i64 0, .int .i32 0]) ?_ 2 _ rfl; (with_reducible repeat (first | refine blk_drewN ?_ _ | refine blk_drew ?_ | refine blk_alloc ?_ _)); refine blk_put (cs := #[.int .i64 ((rd_T53 t216 x16_1).f0.f0), .int .i64 0, .int .i64 0, .int .i64 0, .int .i64 0, .int .i32 0]) ?_ 1 _ rfl; (with_reducible repeat (first | refine blk_drewN ?_ _ | refine blk_drew ?_ | refine blk_alloc ?_ _)); refine blk_put (cs := #[.int .i64 0, .int .i64 0, .int .i64 0, .int .i64 0, .int .i64 0, .int .i32 0]) ?_ 0 _ rfl; (with_reducible repeat (first | refine blk_drewN ?_ _ | refine blk_drew ?_ | refine blk_alloc ?_ _)); exact BK221.out) hg (Kd.R_ne HO_6.out BK221.out (by decide))); have n2_ := Aside0.mk (hb); have n3_ := Aside0.mk (ho); clear HO_14; clear BK221; clear HB; clear HO_6; have HO_14 := n0_; have BK221 := n1_; have HB := n2_; have HO224 := n3_; clear n0_ n1_ n2_ n3_; clear ho hb hg hat))
       go_roundg k1
       case measure => have := HK1.out; omega
       case rel => exact ⟨(y222), (wrap64 (x16_1 + 1)), (by first | rfl | (simp; done) | (simp [*]; done)), H', ⟨by have := HK1.out; omega⟩, ⟨by (with_reducible repeat (first | apply Kd.R_alloc | apply Kd.R_drewN | apply Kd.R_drew)); exact HO224.out⟩, ⟨by (with_reducible repeat (first | apply Kd.R_alloc | apply Kd.R_drewN | apply Kd.R_drew)); exact Kd.R_mono HO_14.out (fun _ hk => trivial)⟩, ⟨by repeat (first | (with_reducible first | exact HB.out | apply below_alloc | apply pw_below_drewN | apply below_drew1 | refine below_set ?_ GE221.out) | exact HB.out)⟩⟩
      ·
       rw [if_neg c8] at H
       exact absurd H (by simp)
     ·
      rw [if_neg c7] at H
      exact absurd H (by simp)
    ·
     rw [if_neg c6] at H
     exact absurd H (by simp)
   ·
    rw [if_neg c5] at H
    have c5b0 : decide (x16_1 < (t216.length : Int)) = false := decide_eq_false c5
    clear c5
    simp only [Option.some.injEq, Prod.mk.injEq] at H
    obtain ⟨rfl, rfl⟩ := H
    go_wp2
    go_ret2
    exact ⟨_, by first | rfl | (simp [errW_none, errW_some] <;> rfl) | (simp [*, errW_none, errW_some] <;> rfl), by (with_reducible repeat (first | apply Kd.R_alloc | apply Kd.R_drewN | apply Kd.R_drew)); exact HO_6.out, by repeat (first | (with_reducible first | exact HB.out | apply below_alloc | apply pw_below_drewN | apply below_drew1) | exact HB.out)⟩
end Go.Proofs.YtmbndijbpgobeaaGreat.PWalk
end
section
namespace Go.Proofs.YtmbndijbpgobeaaGreat.PWalk
open Go.RowKit Go.Proofs.YtmbndijbpgobeaaGreatW.PrintWords Go.Proofs.YtmbndijbpgobeaaGreatW.PrintLast Go.Proofs.YtmbndijbpgobeaaGreatW.PrintMore
attribute [local go_sem] max2_int max_two
set_option linter.unusedVariables false
set_option linter.unusedSimpArgs false
def store_Time.l0 : Nat → Int → List (S53) → Int → Int → Option (Int × Int)
 | 0, _, _, _, _ => none
 | k + 1, x4, x10, x11, x12 => if x12 < x11 then (if 0 ≤ x12 then (if x12 < (x10.length : Int) then (store_Time.l0 k (mx x4 ((rd_T53 x10 x12).f2)) x10 x11 (wrap64 (x12 + 1))) else (none)) else (none)) else (some (x4, 0))
def store_Time.f (k : Nat) (l0 : List (S53)) : Option (Int × Int) := (store_Valid.f l0).bind fun t161 => (if t161 = true then (store_Time.l0 k 0 l0 (l0.length : Int) 0) else (some (0, 2)))
set_option maxHeartbeats 8000000 in
set_option maxRecDepth 100000 in
theorem store_Time.calls (k : Nat) (A0 : Option Addr) (c0 : Nat) (l0 : List (S53)) (r1 : Int) (r2 : Int) (w : World) (hr0 : Kd.C k53 w A0 l0.length l0) (hc0 : l0.length ≤ c0) (h : store_Time.f k l0 = some (r1, r2)) :
  Calls Tryz.prog 55 #[.slice A0 l0.length c0] w fun e w' => e = .returned (.tuple #[.int .i64 r1, .int .i64 r2]) ∧ Below w.heap.size w w' := by
 have hu53 := Tryz.underlying53
 have HR0 := Aside0.mk hr0
 have HC0 := Aside0.mk hc0
 clear hr0 hc0
 have HB := Aside0.mk (Below.refl w.heap.size w)
 have H : ((store_Valid.f l0).bind fun t161 => (if t161 = true then (store_Time.l0 k 0 l0 (l0.length : Int) 0) else (some (0, 2)))) = some (r1, r2) := h
 clear h
 replace H := Option.bind_eq_some_iff.mp H
 obtain ⟨t161, A20, H⟩ := H
 replace H : (if t161 = true then (store_Time.l0 k 0 l0 (l0.length : Int) 0) else (some (0, 2))) = some (r1, r2) := H
 have A2 := Aside0.mk A20
 clear A20
 by_cases c3 : t161 = true
 ·
  subst c3
  have H1 : (store_Time.l0 k 0 l0 (l0.length : Int) 0) = some (r1, r2) := by rw [if_pos rfl] at H; exact H
  clear H
  have H := H1
  clear H1
  have H' := Aside0.mk H
  clear H
  go_enter Tryz.func55, Tryz.ntmps55
  go_wp2_with (first | ((with_reducible refine gate_callee (f := 67) rfl ?_); refine goesL_ (some 8) rfl rfl Tryz.func67 (by kernel_rfl) rfl #[.slice A0 l0.length c0] rfl (by (try simp only [List.map_toArray, List.map_cons, List.map_nil]); first | done | rfl | (simp only [List.length_drop, List.length_take]; rfl)) ?_; (with_reducible refine (store_Valid.calls _ _ l0 true _ ?side1 ?side2 A2.out).mono ?_); (case side1 => repeat (first | exact HR0.out | (with_reducible refine Kd.C_alloc ?_ _) | (with_reducible refine Kd.C_drewN ?_ _) | (with_reducible refine Kd.C_drew ?_))); (case side2 => exact HC0.out); rintro e w4 ⟨rfl, hb⟩; refine ⟨_, rfl, ?_⟩; have n0_ := Aside0.mk (below_step (by repeat (first | (with_reducible first | exact HB.out | apply below_alloc | apply pw_below_drewN | apply below_drew1) | exact HB.out)) hb); clear HB; have HB := n0_; clear n0_; (try clear hb); (try clear hb2); (try clear hk); (try clear hi)))
  go_loopg [4, 12] k (fun kq v4 v12 w' => ∃ (x4_1 : Int) (x12_1 : Int), v4 = .int .i64 x4_1 ∧ v12 = .int .i64 x12_1 ∧ Aside0 (store_Time.l0 kq x4_1 l0 (l0.length : Int) x12_1 = some (r1, r2)) ∧ Aside0 (kq ≤ k) ∧ Aside0 (Below w.heap.size w w'))
  case atStart => exact ⟨(0), (0), (by first | rfl | (simp; done) | (simp [*]; done)), (by first | rfl | (simp; done) | (simp [*]; done)), H', ⟨Nat.le_refl _⟩, ⟨by repeat (first | (with_reducible first | exact HB.out | apply below_alloc | apply pw_below_drewN | apply below_drew1) | exact HB.out)⟩⟩
  case round =>
   clear H'
   try clear p2
   try clear c3
   obtain ⟨x4_1, x12_1, rfl, rfl, HA, HK1, HB⟩ := hrel
   cases gk with
   | zero => exact absurd HA.out (by simp [store_Time.l0])
   | succ k1 =>
    have H := HA.out
    clear HA
    simp only [store_Time.l0] at H
    by_cases c5 : x12_1 < (l0.length : Int)
    ·
     rw [if_pos c5] at H
     have c5b0 : decide (x12_1 < (l0.length : Int)) = true := decide_eq_true c5
     clear c5
     by_cases c6 : 0 ≤ x12_1
     ·
      rw [if_pos c6] at H
      have c6b0 : decide (0 ≤ x12_1) = true := decide_eq_true c6
      clear c6
      by_cases c7 : x12_1 < (l0.length : Int)
      ·
       rw [if_pos c7] at H
       have c7b0 : decide (x12_1 < (l0.length : Int)) = true := decide_eq_true c7
       clear c7
       obtain ⟨ji8, hji8⟩ : ∃ j_ : Int, (mx x4_1 ((rd_T53 l0 x12_1).f2)) = j_ := ⟨_, rfl⟩
       replace H : (store_Time.l0 k1 ji8 l0 (l0.length : Int) (wrap64 (x12_1 + 1))) = some (r1, r2) := by first | (rw [hji8] at H; exact H) | (simp only [hji8] at H ⊢; exact H)
       have hji8_ : (if x4_1 < ((rd_T53 l0 x12_1).f2) then ((rd_T53 l0 x12_1).f2) else x4_1) = ji8 := hji8
       have H' := Aside0.mk H
       clear H
       have p162 : 0 ≤ (x12_1 : Int) := of_decide_eq_true (by first | (with_reducible assumption) | assumption)
       have q162 : x12_1 < (l0.length : Int) := of_decide_eq_true (by first | (with_reducible assumption) | assumption)
       obtain ⟨ad162, e162, hx162_0, hx162_1, hx162_2, hx162_3, hx162_4, hx162_5⟩ := at_T53 HR0.out x12_1 p162 q162
       cases e162
       replace hx162_0 := (HB.out.cell (World.block_lt_of_cell? w _ hx162_0)).trans hx162_0
       replace hx162_1 := (HB.out.cell (World.block_lt_of_cell? w _ hx162_1)).trans hx162_1
       replace hx162_2 := (HB.out.cell (World.block_lt_of_cell? w _ hx162_2)).trans hx162_2
       replace hx162_3 := (HB.out.cell (World.block_lt_of_cell? w _ hx162_3)).trans hx162_3
       replace hx162_4 := (HB.out.cell (World.block_lt_of_cell? w _ hx162_4)).trans hx162_4
       replace hx162_5 := (HB.out.cell (World.block_lt_of_cell? w _ hx162_5)).trans hx162_5
       replace p162 := eq_true p162
       replace q162 := eq_true q162
       go_wp2_with (first | ((with_reducible refine gate_dst (N := 6) rfl ?_); refine box_event ?hg (N := 6) ?hd (cs := #[.int .i64 0, .int .i64 0, .int .i64 0, .int .i64 0, .int .i64 0, .int .i32 0]) (t := 53) ?hr ?_; (case hd => rfl); (case hg => rfl); (case hr => first | (go_simp; done) | (go_simp; rfl)); intro gb163 hg w9 hbox hb; have n0_ := Aside0.mk (below_step (by repeat (first | (with_reducible first | exact HB.out | apply below_alloc | apply pw_below_drewN | apply below_drew1) | exact HB.out)) hb); have n1_ := Aside0.mk (hbox); have n2_ := Aside0.mk ((by rw [hg]; exact (below_size (by repeat (first | (with_reducible first | exact HB.out | apply below_alloc | apply pw_below_drewN | apply below_drew1) | exact HB.out))) : w.heap.size ≤ gb163)); have n3_ := Aside0.mk ((by rw [hg]; exact (below_size (by repeat (first | (with_reducible first | exact HB.out | apply below_alloc | apply pw_below_drewN | apply below_drew1) | exact HB.out))) : w.heap.size ≤ gb163)); clear HB; have HB := n0_; have BK163 := n1_; have GW163 := n2_; have GE163 := n3_; clear n0_ n1_ n2_ n3_; clear hb hbox hg; have hcz10_0 : w9.cell? ⟨gb163, 0, none⟩ = some (.int .i64 0) := (blk_cell BK163.out 0).trans rfl; have hcz10_1 : w9.cell? ⟨gb163, 1, none⟩ = some (.int .i64 0) := (blk_cell BK163.out 1).trans rfl; have hcz10_2 : w9.cell? ⟨gb163, 2, none⟩ = some (.int .i64 0) := (blk_cell BK163.out 2).trans rfl; have hcz10_3 : w9.cell? ⟨gb163, 3, none⟩ = some (.int .i64 0) := (blk_cell BK163.out 3).trans rfl; have hcz10_4 : w9.cell? ⟨gb163, 4, none⟩ = some (.int .i64 0) := (blk_cell BK163.out 4).trans rfl; have hcz10_5 : w9.cell? ⟨gb163, 5, none⟩ = some (.int .i32 0) := (blk_cell BK163.out 5).trans rfl; have hfz10_0 := blk_frozen BK163.out 0; have hfz10_1 := blk_frozen BK163.out 1; have hfz10_2 := blk_frozen BK163.out 2; have hfz10_3 := blk_frozen BK163.out 3; have hfz10_4 := blk_frozen BK163.out 4; have hfz10_5 := blk_frozen BK163.out 5))
       go_roundg k1
       case measure => have := HK1.out; omega
       case rel => exact ⟨(ji8), (wrap64 (x12_1 + 1)), (by first | rfl | (simp; done) | (simp only [← hji8] <;> (first | rfl | simp)) | (simp [*]; done)), (by first | rfl | (simp; done) | (simp [*]; done)), H', ⟨by have := HK1.out; omega⟩, ⟨by repeat (first | (with_reducible first | exact HB.out | apply below_alloc | apply pw_below_drewN | apply below_drew1 | refine below_set ?_ GE163.out) | exact HB.out)⟩⟩
      ·
       rw [if_neg c7] at H
       exact absurd H (by simp)
     ·
      rw [if_neg c6] at H
      exact absurd H (by simp)
    ·
     rw [if_neg c5] at H
     have c5b0 : decide (x12_1 < (l0.length : Int)) = false := decide_eq_false c5
     clear c5
     simp only [Option.some.injEq, Prod.mk.injEq] at H
     obtain ⟨rfl, rfl⟩ := H
     go_wp2
     go_ret2
     exact ⟨by first | rfl | (simp [errW_none, errW_some] <;> rfl) | (simp [*, errW_none, errW_some] <;> rfl), by repeat (first | (with_reducible first | exact HB.out | apply below_alloc | apply pw_below_drewN | apply below_drew1) | exact HB.out)⟩
 ·
  replace c3 := Bool.eq_false_iff.mpr c3
  subst c3
  have H1 : (some (0, 2)) = some (r1, r2) := by rw [if_neg (show ¬ (false = true) by decide)] at H; exact H
  clear H
  have H := H1
  clear H1
  simp only [Option.some.injEq, Prod.mk.injEq] at H
  obtain ⟨rfl, rfl⟩ := H
  go_enter Tryz.func55, Tryz.ntmps55
  go_wp2_with (first | ((with_reducible refine gate_callee (f := 67) rfl ?_); refine goesL_ (some 8) rfl rfl Tryz.func67 (by kernel_rfl) rfl #[.slice A0 l0.length c0] rfl (by (try simp only [List.map_toArray, List.map_cons, List.map_nil]); first | done | rfl | (simp only [List.length_drop, List.length_take]; rfl)) ?_; (with_reducible refine (store_Valid.calls _ _ l0 false _ ?side1 ?side2 A2.out).mono ?_); (case side1 => repeat (first | exact HR0.out | (with_reducible refine Kd.C_alloc ?_ _) | (with_reducible refine Kd.C_drewN ?_ _) | (with_reducible refine Kd.C_drew ?_))); (case side2 => exact HC0.out); rintro e w11 ⟨rfl, hb⟩; refine ⟨_, rfl, ?_⟩; have n0_ := Aside0.mk (below_step (by repeat (first | (with_reducible first | exact HB.out | apply below_alloc | apply pw_below_drewN | apply below_drew1) | exact HB.out)) hb); clear HB; have HB := n0_; clear n0_; (try clear hb); (try clear hb2); (try clear hk); (try clear hi)))
  go_ret2
  exact ⟨by first | rfl | (simp [errW_none, errW_some] <;> rfl) | (simp [*, errW_none, errW_some] <;> rfl), by repeat (first | (with_reducible first | exact HB.out | apply below_alloc | apply pw_below_drewN | apply below_drew1) | exact HB.out)⟩
def edit_Latest.f (k : Nat) (l0 : List (S53)) : Option (Int) := (store_Time.f k l0).bind fun bt164 => (some bt164.1)
set_option maxHeartbeats 8000000 in
set_option maxRecDepth 100000 in
theorem edit_Latest.calls (k : Nat) (A0 : Option Addr) (c0 : Nat) (l0 : List (S53)) (r : Int) (w : World) (hr0 : Kd.C k53 w A0 l0.length l0) (hc0 : l0.length ≤ c0) (h : edit_Latest.f k l0 = some r) :
  Calls Tryz.prog 23 #[.slice A0 l0.length c0] w fun e w' => e = .returned (.int .i64 r) ∧ Below w.heap.size w w' := by
 have HR0 := Aside0.mk hr0
 have HC0 := Aside0.mk hc0
 clear hr0 hc0
 have HB := Aside0.mk (Below.refl w.heap.size w)
 have H : ((store_Time.f k l0).bind fun bt164 => (some bt164.1)) = some r := h
 clear h
 replace H := Option.bind_eq_some_iff.mp H
 obtain ⟨⟨t164, t165⟩, A20, H⟩ := H
 replace H : (some t164) = some r := H
 have A2 := Aside0.mk A20
 clear A20
 obtain rfl := Option.some.inj H
 go_enter Tryz.func23, Tryz.ntmps23
 go_wp2_with (first | ((with_reducible refine gate_callee (f := 55) rfl ?_); refine goesL_ (some 7) rfl rfl Tryz.func55 (by kernel_rfl) rfl #[.slice A0 l0.length c0] rfl (by (try simp only [List.map_toArray, List.map_cons, List.map_nil]); first | done | rfl | (simp only [List.length_drop, List.length_take]; rfl)) ?_; (with_reducible refine (store_Time.calls k _ _ l0 t164 t165 _ ?side1 ?side2 A2.out).mono ?_); (case side1 => repeat (first | exact HR0.out | (with_reducible refine Kd.C_alloc ?_ _) | (with_reducible refine Kd.C_drewN ?_ _) | (with_reducible refine Kd.C_drew ?_))); (case side2 => exact HC0.out); rintro e w3 ⟨rfl, hb⟩; refine ⟨_, rfl, ?_⟩; have n0_ := Aside0.mk (below_step (by repeat (first | (with_reducible first | exact HB.out | apply below_alloc | apply pw_below_drewN | apply below_drew1) | exact HB.out)) hb); clear HB; have HB := n0_; clear n0_; (try clear hb); (try clear hb2); (try clear hk); (try clear hi)))
 go_ret
 exact ⟨by first | rfl | (simp [errW_none, errW_some] <;> rfl) | (simp [*, errW_none, errW_some] <;> rfl), by repeat (first | (with_reducible first | exact HB.out | apply below_alloc | apply pw_below_drewN | apply below_drew1) | exact HB.out)⟩
end Go.Proofs.YtmbndijbpgobeaaGreat.PWalk
end
section
namespace Go.Proofs.YtmbndijbpgobeaaGreat.PWalk
open Go.RowKit Go.Proofs.YtmbndijbpgobeaaGreatW.PrintWords Go.Proofs.YtmbndijbpgobeaaGreatW.PrintLast Go.Proofs.YtmbndijbpgobeaaGreatW.PrintMore
set_option linter.unusedVariables false
set_option linter.unusedSimpArgs false
open Go.Shelf
attribute [local go_sem] Oper.semAt_some
theorem op_slice {K : Act → World → Prop} {Q : Exit → Act → World → Prop} {P : Program} {o : Oper} {a : Act} {W : World} (t : TypeId) (s : Operand) (lo hi : Option Operand) (ho : o.op = .slice t s lo hi none) {v x : Value} {vl vh : Option Value} (hs : a.eval s = v) (hl : lo.map a.eval = vl) (hh : hi.map a.eval = vh)
  (hrun : (Instr.sliceAt t v vl vh none).run P W = .ok x W) (h : K (a.put o.dst x) W) : o.wp P a W K Q := by
 unfold Oper.wp
 unfold execOp
 simp only [ho, Option.map_none, hs, hl, hh]
 simp [Result.andThen, Sem.run_bind, hrun, go_sem]
 exact h
theorem run_sliced {P : Program} {t e : TypeId} {A : Option Addr} {m c : Nat} {lo hi : Option Value} {x : Value} {W : World} (ht : P.underlying t = some (.slice e)) (h : (Instr.slice t (.slice A m c) lo hi none).run P W = .ok x W) : (Instr.sliceAt t (.slice A m c) lo hi none).run P W = .ok x W := by
 have he : P.elem t = e := by simp [Program.elem, ht]
 rw [run_sliceAt_slice W t _ _ _ _ (by rw [he]; exact ht)]
 exact h
theorem RN.C {W : World} {base m c : Nat} {A : Option Addr} {xs : List Node} (h : RN W base (.slice A m c) xs) : xs.length = m ∧ m ≤ c ∧ Kd.C k53 W A m xs := by
 obtain ⟨A', c', e, hc, hC⟩ := Kd.R_reads h
 cases e
 exact ⟨rfl, hc, hC⟩
theorem C_to {α : Type} {d : Kd α} {W : World} {A : Option Addr} {m k : Nat} {xs : List α} (h : d.C W A m xs) (hm : xs.length = m) (hk : k ≤ m) : d.C W A k (xs.take k) := by
 subst hm
 have := Kd.C_take h hk
 rwa [show (xs.take k).length = k by rw [List.length_take]; omega] at this
theorem C_from {α : Type} {d : Kd α} {W : World} {A : Option Addr} {m k c : Nat} {xs : List α} (h : d.C W A m xs) (hm : xs.length = m) (hk : k ≤ m) (hc : m ≤ c) : d.C W (if c = k then A else A.map (·.add (k * d.sz))) (m - k) (xs.drop k) := by
 subst hm
 have := Kd.C_drop h hk hc
 rwa [List.length_drop] at this
theorem grown_below {W0 V V' : World} {v : Value} {xs : List Node} (hb : Below W0.heap.size W0 V) (hr : RN V W0.heap.size v xs) (hg : V.grownBy V' v.ownBlock) : Below W0.heap.size W0 V' :=
 hb.grown hg hb.size (fun k e => by
  obtain ⟨_, inner, ho, _⟩ := hr
  rcases ho.2 with ⟨rfl, _⟩ | ⟨g, c, cur, rfl, h1, _⟩
  ·
   cases e
  ·
   cases e; exact h1)
theorem grown_nil {V V' : World} (hg : V.grownBy V' (Value.slice none 0 0).ownBlock) : Below V.heap.size V V' := (Below.refl _ V).grown hg (Nat.le_refl _) (fun k e => by cases e)
end Go.Proofs.YtmbndijbpgobeaaGreat.PWalk
end
section
namespace Go.Proofs.YtmbndijbpgobeaaGreat.PWalk
open Go.RowKit Go.Proofs.YtmbndijbpgobeaaGreatW.PrintWords Go.Proofs.YtmbndijbpgobeaaGreatW.PrintLast Go.Proofs.YtmbndijbpgobeaaGreatW.PrintMore
set_option linter.unusedVariables false
set_option linter.unusedSimpArgs false
open Go.Shelf
attribute [local go_sem] Oper.semAt_some
/-- A rune that the machine can hold. -/
def runeIn (r : Int) : Prop := -9223372036854775808 ≤ r ∧ r ≤ 9223372036854775807
theorem rdN {l : List Node} {i : Nat} (h : i < l.length) : rd_T53 l (i : Int) = l[i] := by simp [rd_T53, h]
theorem wrap_succ {i n : Nat} (h : i < n) (hn : n ≤ 1000000) : wrap64 ((i : Int) + 1) = ((i + 1 : Nat) : Int) := by unfold wrap64; omega
theorem ord_len {ll : List Node} (hs : storeOk ll = true) : (nds (ordOf ll)).length ≤ ll.length := by rw [nds_length]; exact ord_le (store_of hs)
theorem vis_len {ll : List Node} (hs : storeOk ll = true) : (visOf ll).length ≤ ll.length := Nat.le_trans (aliveOf_le _) (ord_len hs)
theorem first2_k {k : Nat} (hk : 3 ≤ k) (a b : Int) : index_first.f k [a, b] = some (if a = 0 then b else a) := by
 obtain ⟨m, rfl⟩ : ∃ m, k = m + 3 := ⟨k - 3, by omega⟩
 by_cases ha : a = 0
 ·
  by_cases hb : b = 0
  ·
   subst ha hb; simp [index_first.f, index_first.l0, rd, wrap64]
  ·
   subst ha
   simp [index_first.f, index_first.l0, rd, wrap64, hb]
 ·
  simp [index_first.f, index_first.l0, rd, ha]
theorem mem_vis {ll : List Node} (hs : storeOk ll = true) {x : Node} (h : x ∈ visOf ll) : x ∈ ll ∧ ¬ x.f3 = 0 := by
 unfold visOf aliveOf at h
 rw [List.mem_filter] at h
 obtain ⟨h1, h2⟩ := h
 unfold nds at h1
 rw [List.mem_map] at h1
 obtain ⟨p, hp, rfl⟩ := h1
 exact ⟨ord_mem (store_of hs) hp, by simpa using h2⟩
/-- What keeps a node's dot, parent and time. -/
def Keeps (g : Node → Node) : Prop := ∀ x, (g x).f0 = x.f0 ∧ (g x).f1 = x.f1 ∧ (g x).f2 = x.f2
def killD (d : Dot) (x : Node) : Node := if x.f0 = d then deadN x else x
theorem killD_keeps (d : Dot) : Keeps (killD d) := fun x => by
 unfold killD
 split
 ·
  exact ⟨rfl, rfl, rfl⟩
 ·
  exact ⟨rfl, rfl, rfl⟩
theorem killD_ok {d : Dot} {x : Node} (h : nodeOk x = true) : nodeOk (killD d x) = true := by
 unfold killD
 split
 ·
  unfold nodeOk at h ⊢
  have := of_decide_eq_true h
  exact decide_eq_true ⟨this.1, this.2.1, this.2.2.1, this.2.2.2.1, this.2.2.2.2.1, .inl rfl⟩
 ·
  exact h
theorem kill_store {l : List Node} (hs : storeOk l = true) (d : Dot) : storeOk (l.map (killD d)) = true := by
 unfold storeOk at hs ⊢
 rw [Bool.and_eq_true, List.all_eq_true] at hs ⊢
 refine ⟨fun x hx => ?_, ?_⟩
 ·
  rw [List.mem_map] at hx
  obtain ⟨y, hy, rfl⟩ := hx
  exact killD_ok (hs.1 y hy)
 ·
  rw [List.map_map, show ((fun x : Node => x.f0) ∘ killD d) = fun x => x.f0 from funext fun x => (killD_keeps d x).1]
  exact hs.2
theorem modify_kill {l : List Node} (hs : Store l) {k : Nat} {x : Node} (hk : l[k]? = some x) : l.modify k deadN = l.map (killD x.f0) := by
 apply List.ext_getElem?
 intro i
 rw [List.getElem?_modify, List.getElem?_map]
 by_cases e : k = i
 ·
  subst e
  rw [hk]
  show some (if k = k then deadN x else x) = some (killD x.f0 x)
  unfold killD
  simp
 ·
  cases hi : l[i]? with
  | none => rfl
  | some y =>
   show some (if k = i then deadN y else y) = some (killD x.f0 y)
   rw [if_neg e]
   unfold killD
   rw [if_neg fun h => e (inc_unique hs.inc hk hi h.symm)]
theorem dots_nodup {l : List Node} (hs : Store l) {L : List Node} (hL : L.Nodup) (hm : ∀ x ∈ L, x ∈ l) : (L.map (·.f0)).Nodup := by
 rw [List.nodup_iff_pairwise_ne, List.pairwise_map]
 refine List.Pairwise.imp_of_mem ?_ (List.nodup_iff_pairwise_ne.1 hL)
 intro a b ha hb hne e
 exact hne (inc_eq hs.inc (hm a ha) (hm b hb) e)
end Go.Proofs.YtmbndijbpgobeaaGreat.PWalk
end
section
namespace Go.Proofs.YtmbndijbpgobeaaGreat.PWalk
open Go.RowKit Go.Proofs.YtmbndijbpgobeaaGreatW.PrintWords Go.Proofs.YtmbndijbpgobeaaGreatW.PrintLast Go.Proofs.YtmbndijbpgobeaaGreatW.PrintMore
set_option linter.unusedVariables false
set_option linter.unusedSimpArgs false
open Go.Shelf
attribute [local go_sem] Oper.semAt_some
theorem at_bk (l : List Node) (d : Dot) : MapLaw.mget (atOf (bk l)) d = idxN l 0 d := by
 have hb : atOf (bk l) = (l.zipIdx.map fun p => (p.2, p.1)).foldr (fun p m => MapLaw.mset m p.2.f0 p.1) [] := by
  exact List.foldl_reverse
 rw [hb]
 clear hb
 generalize (0 : Nat) = n
 induction l generalizing n with
 | nil => rfl
 | cons x l ih =>
  rw [List.zipIdx_cons, List.map_cons, List.foldr_cons, MapLaw.mget_mset, ih, idxN]
/-- A node of an allowed list has no flaw just where it stands on the root, or on an older node. -/
theorem flaw_zero {l : List Node} (hok : ∀ x ∈ l, nodeOk x = true) (hinc : Inc l) {i : Nat} {x : Node} (hx : l[i]? = some x) :
  flawOf l (atOf (bk l)) i = 0 ↔ (dotRoot x.f1 = true ∨ ∃ p ∈ l, p.f0 = x.f1 ∧ p.f2 < x.f2) := by
 rw [flawOf_at hx]
 have hm := List.mem_of_getElem? hx
 have hi := (List.getElem?_eq_some_iff.1 hx).1
 rw [if_neg (by rw [hok x hm]; simp)]
 have hstep : 0 < i → ∃ hp : i - 1 < l.length, dotLt l[i - 1].f0 x.f0 = true := fun h0 => by
  have hp : i - 1 < l.length := by omega
  refine ⟨hp, ?_⟩
  have := List.pairwise_iff_getElem.1 hinc (i - 1) i hp hi (by omega)
  rwa [(List.getElem?_eq_some_iff.1 hx).2] at this
 by_cases h0 : 0 < i
 obtain ⟨hp, hlt⟩ := hstep h0
 simp only [List.getElem?_eq_getElem hp, hlt, h0, true_and, Bool.true_eq_false, if_false]
 clear hp hlt
 rotate_left
 simp only [h0, false_and, if_false]
 all_goals
  clear hstep h0
  by_cases hr : dotRoot x.f1 = true
  ·
   simp [hr]
  ·
   rw [if_neg hr, at_bk]
   cases hn : idxN l 0 x.f1 with
   | none =>
    simp only []
    constructor
    ·
     intro h; cases h
    ·
     rintro (h | ⟨p, hp, e, _⟩)
     ·
      exact absurd h hr
     ·
      exact absurd e (idxN_none hn p hp)
   | some k =>
    obtain ⟨p, hp, e⟩ := idxN_some hn
    simp only [Nat.sub_zero] at hp
    simp only [hp]
    constructor
    ·
     intro h
     refine .inr ⟨p, List.mem_of_getElem? hp, e, ?_⟩
     by_cases ht : x.f2 ≤ p.f2
     ·
      simp [ht] at h
     ·
      omega
    ·
     rintro (h | ⟨q, hq, e', ht⟩)
     ·
      exact absurd h hr
     ·
      obtain ⟨j, hj⟩ := List.getElem?_of_mem hq
      have := inc_unique hinc hj hp (e'.trans e.symm)
      subst this
      rw [hp] at hj; cases hj
      rw [if_neg (by simp; omega)]
theorem faults_none {l : List Node} (h : faultsOf l = []) : ∀ i, i < l.length → flawOf l (atOf (bk l)) i = 0 := by
 have : ∀ k, faultsUpto l (atOf (bk l)) k = [] → ∀ i, i < k → flawOf l (atOf (bk l)) i = 0 := by
  intro k
  induction k with
  | zero => intro _ i hi; omega
  | succ k ih =>
   intro hk i hi
   rw [faultsUpto_succ] at hk
   obtain ⟨h1, h2⟩ := List.append_eq_nil_iff.1 hk
   rcases Nat.lt_succ_iff_lt_or_eq.1 hi with hi | rfl
   ·
    exact ih h1 i hi
   ·
    by_cases hf : flawOf l (atOf (bk l)) i = 0
    ·
     exact hf
    ·
     rw [if_neg hf] at h2; cases h2
 exact this l.length h
theorem incB_adj : ∀ {ds : List Dot}, (∀ i a b, ds[i]? = some a → ds[i + 1]? = some b → dotLt a b = true) → incB ds = true
 | [], _ => rfl
 | [_], _ => rfl
 | a :: b :: r, h => by
  simp only [incB, Bool.and_eq_true]
  exact ⟨h 0 a b rfl rfl, incB_adj fun i x y hx hy => h (i + 1) x y (by simpa using hx) (by simpa using hy)⟩
theorem well_flaws {l : List Node} (h : faultsOf l = []) {i : Nat} {x : Node} (hx : l[i]? = some x) : nodeOk x = true ∧ ¬ (0 < i ∧ (match l[i - 1]? with | some p => dotLt p.f0 x.f0 | none => true) = false) := by
 have hz := faults_none h i (List.getElem?_eq_some_iff.1 hx).1
 rw [flawOf_at hx] at hz
 have h1 : nodeOk x = true := by
  cases hn : nodeOk x with
  | true => rfl
  | false => rw [if_pos hn] at hz; cases hz
 refine ⟨h1, fun hc => ?_⟩
 rw [if_neg (by rw [h1]; decide)] at hz
 cases hp : l[i - 1]? with
 | none =>
  simp only [hp] at hc
  exact absurd hc.2 (by decide)
 | some p =>
  simp only [hp] at hc hz
  rw [if_pos hc] at hz
  cases hz
theorem well_store {l : List Node} (h : faultsOf l = []) : storeOk l = true := by
 unfold storeOk
 rw [Bool.and_eq_true, List.all_eq_true]
 constructor
 ·
  intro x hx
  obtain ⟨i, hi⟩ := List.getElem?_of_mem hx
  exact (well_flaws h hi).1
 ·
  refine incB_adj fun i a b ha hb => ?_
  rw [List.getElem?_map, Option.map_eq_some_iff] at ha hb
  obtain ⟨x, hx, rfl⟩ := ha
  obtain ⟨y, hy, rfl⟩ := hb
  have h2 := (well_flaws h hy).2
  rw [Nat.add_sub_cancel, hx] at h2
  cases hd : dotLt x.f0 y.f0 with
  | true => rfl
  | false => exact absurd ⟨Nat.succ_pos i, hd⟩ h2
theorem faultsUpto_nil {l : List Node} {m : List (Dot × Nat)} : ∀ {k : Nat}, (∀ i, i < k → flawOf l m i = 0) → faultsUpto l m k = []
 | 0, _ => rfl
 | k + 1, h => by rw [faultsUpto_succ, faultsUpto_nil fun i hi => h i (by omega), if_pos (h k (by omega))]; rfl
theorem well_yes {l : List Node} (hl : l.length ≤ 1000000) (h : faultsOf l = []) : shape_Well.f l = some true := by
 unfold shape_Well.f shape_Faults.f
 rw [if_pos hl, h]
 rfl
theorem well_no {l : List Node} (hl : l.length ≤ 1000000) (h : ¬ faultsOf l = []) : shape_Well.f l = some false := by
 unfold shape_Well.f shape_Faults.f
 rw [if_pos hl]
 have : 0 < (faultsOf l).length := List.length_pos_iff.2 h
 simp only [Option.bind_some]
 rw [show (((faultsOf l).length : Int) == 0) = false from beq_eq_false_iff_ne.2 (by omega)]
end Go.Proofs.YtmbndijbpgobeaaGreat.PWalk
end
section
namespace Go.Proofs.YtmbndijbpgobeaaGreat.PWalk
open Go.RowKit Go.Proofs.YtmbndijbpgobeaaGreatW.PrintWords Go.Proofs.YtmbndijbpgobeaaGreatW.PrintLast Go.Proofs.YtmbndijbpgobeaaGreatW.PrintMore
set_option linter.unusedVariables false
set_option linter.unusedSimpArgs false
open Go.Shelf
attribute [local go_sem] Oper.semAt_some
def firstE : List Int → Int
 | [] => 0
 | e :: r => if e = 0 then firstE r else e
theorem rdI {l : List Int} {i : Nat} (h : i < l.length) : rd l (i : Int) = l[i] := by simp [rd, h]
theorem efirst_from (l : List Int) (hl : l.length ≤ 1000000) : ∀ (q k i : Nat), i + q = l.length → q < k → edit_first.l0 k l (l.length : Int) (i : Int) = some (firstE (l.drop i)) := by
 intro q
 induction q with
 | zero =>
  intro k i hi hk
  obtain ⟨k, rfl⟩ : ∃ m, k = m + 1 := ⟨k - 1, by omega⟩
  simp only [edit_first.l0]
  rw [if_neg (by omega), List.drop_of_length_le (by omega)]
  rfl
 | succ q ih =>
  intro k i hi hk
  obtain ⟨k, rfl⟩ : ∃ m, k = m + 1 := ⟨k - 1, by omega⟩
  have hlt : i < l.length := by omega
  simp only [edit_first.l0]
  rw [if_pos (by omega), if_pos (by omega), if_pos (by omega), rdI hlt, wrap_succ hlt hl, List.drop_eq_getElem_cons hlt]
  simp only [firstE]
  by_cases e : l[i] = 0
  ·
   rw [if_pos e, if_pos e]
   exact ih k (i + 1) (by omega) (by omega)
  ·
   rw [if_neg e, if_neg e]
theorem efirst_is (l : List Int) (hl : l.length ≤ 1000000) {k : Nat} (hk : l.length < k) : edit_first.f k l = some (firstE l) := efirst_from l hl l.length k 0 (by omega) hk
theorem ewhen_is (b : Bool) (n : Int) : edit_when.f b n = some (if b = true then n else 0) := by
 unfold edit_when.f
 cases b <;> rfl
/-- The error of an index and a number of runes from it on. -/
def spanE (l : List Node) (a n : Int) : Int := if faultsOf l = [] then (if a < 0 ∨ n < 0 ∨ a > ((visOf l).length : Int) ∨ n > ((visOf l).length : Int) - a then 3 else 0) else 2
theorem elen_is {l : List Node} (hl : l.length ≤ 1000000) (hs : storeOk l = true) : index_Len.f l = some (((visOf l).length : Int), 0) := by
 unfold index_Len.f
 rw [vis_is (by omega), if_pos hs]
 rfl
theorem span_is {l : List Node} (hl : l.length ≤ 1000000) (a n : Int) {k : Nat} (hk : 3 ≤ k) : edit_span.f k l a n = some (spanE l a n) := by
 unfold edit_span.f spanE
 by_cases h : faultsOf l = []
 ·
  have hs := well_store h
  have hv := vis_len hs
  rw [well_yes hl h, Option.bind_some, if_pos rfl, elen_is hl hs, Option.bind_some, if_pos h]
  have e3 : (edit_when.f true 3).bind (fun t => (edit_first.f k [(0 : Int), t]).bind fun u => some u) = some 3 := by
   rw [ewhen_is, Option.bind_some, efirst_is _ (by decide) (by show 2 < k; omega)]
   rfl
  by_cases h1 : a < 0
  ·
   rw [if_pos h1, if_pos (.inl h1)]
   exact e3
  ·
   rw [if_neg h1]
   by_cases h2 : n < 0
   ·
    rw [if_pos h2, if_pos (.inr (.inl h2))]
    exact e3
   ·
    rw [if_neg h2]
    by_cases h3 : a > ((visOf l).length : Int)
    ·
     rw [if_pos h3, if_pos (.inr (.inr (.inl h3)))]
     exact e3
    ·
     rw [if_neg h3]
     have hw : wrap64 (((visOf l).length : Int) - a) = ((visOf l).length : Int) - a := by unfold wrap64; omega
     dsimp only
     rw [hw, ewhen_is, Option.bind_some, efirst_is _ (by simp) (by show 2 < k; omega)]
     by_cases h4 : n > ((visOf l).length : Int) - a
     ·
      rw [if_pos (decide_eq_true h4), if_pos (show a < 0 ∨ n < 0 ∨ a > ((visOf l).length : Int) ∨ n > ((visOf l).length : Int) - a from .inr (.inr (.inr h4)))]
      rfl
     ·
      rw [if_neg (show ¬ decide (n > ((visOf l).length : Int) - a) = true from fun h => h4 (of_decide_eq_true h)), if_neg (show ¬ (a < 0 ∨ n < 0 ∨ a > ((visOf l).length : Int) ∨ n > ((visOf l).length : Int) - a) by omega)]
      rfl
 ·
  rw [well_no hl h, Option.bind_some, if_neg (by decide), if_neg h]
/-- The visible nodes from an index on. -/
def cutV (l : List Node) (a n : Int) : List Node := ((visOf l).take (a + n).toNat).drop a.toNat
def deadD (ds : List Dot) (x : Node) : Node := if x.f0 ∈ ds then deadN x else x
theorem deadD_dot (ds : List Dot) (x : Node) : (deadD ds x).f0 = x.f0 := by
 unfold deadD
 split <;> rfl
theorem killFrom_is {l : List Node} (hs : storeOk l = true) : ∀ (ds : List Dot) (o : List Node), storeOk o = true → o.map (·.f0) = l.map (·.f0) → (∀ d ∈ ds, d ∈ l.map (·.f0)) → killFrom (l.map (·.f0)) o ds = some (o.map (deadD ds))
 | [], o, _, _, _ => by
  unfold killFrom
  congr 1
  rw [show deadD [] = id from funext fun x => by unfold deadD; simp]
  simp
 | d :: ds, o, ho, hk, hd => by
  obtain ⟨x, hx, e⟩ := List.mem_map.1 (by rw [hk]; exact hd d (List.mem_cons_self ..) : d ∈ o.map (·.f0))
  subst e
  obtain ⟨i, hi⟩ := List.getElem?_of_mem hx
  obtain ⟨h1, h2⟩ := find_in ho hi
  rw [hk] at h1 h2
  unfold killFrom
  rw [if_pos h2, h1, modify_kill (store_of ho) hi, killFrom_is hs ds _ (kill_store ho _) (by rw [List.map_map, ← hk]; congr 1; funext y; exact (killD_keeps _ y).1) fun z hz => hd z (List.mem_cons_of_mem _ hz), List.map_map]
  congr 2
  funext y
  show deadD ds (killD x.f0 y) = deadD (x.f0 :: ds) y
  unfold deadD killD
  by_cases h3 : y.f0 = x.f0
  ·
   rw [if_pos h3, if_pos (show y.f0 ∈ x.f0 :: ds by rw [h3]; exact List.mem_cons_self ..)]
   split <;> rfl
  ·
   rw [if_neg h3]
   by_cases h4 : y.f0 ∈ ds
   ·
    rw [if_pos h4, if_pos (List.mem_cons_of_mem _ h4)]
   ·
    rw [if_neg h4, if_neg (by rw [List.mem_cons]; rintro (h | h); exact h3 h; exact h4 h)]
/-- What a deletion answers. -/
def delE (l : List Node) (a n : Int) : List Node × Int :=
 if spanE l a n ≠ 0 then ([], spanE l a n) else if n > 10000 then ([], 5) else ((l.filter fun x => decide (x.f0 ∈ (cutV l a n).map (·.f0))).map deadN, 0)
def edit_Delete.f (l0 : List Node) (a1 a2 : Int) : Option (List Node × Int) := if l0.length ≤ 400000 then some (delE l0 a1 a2) else none
theorem cut_sub (l : List Node) (a n : Int) : (cutV l a n).Sublist (visOf l) := (List.drop_sublist _ _).trans (List.take_sublist _ _)
theorem cut_dots {l : List Node} (hs : storeOk l = true) (a n : Int) : ∀ d ∈ (cutV l a n).map (·.f0), d ∈ l.map (·.f0) := by
 intro d hd
 obtain ⟨x, hx, rfl⟩ := List.mem_map.1 hd
 exact List.mem_map.2 ⟨x, (mem_vis hs ((cut_sub l a n).subset hx)).1, rfl⟩
theorem vis_nodup {l : List Node} (hs : storeOk l = true) : ((visOf l).map (·.f0)).Nodup := by
 refine dots_nodup (store_of hs) ?_ fun x hx => (mem_vis hs hx).1
 unfold visOf aliveOf
 exact (ord_nodup (store_of hs)).sublist List.filter_sublist
theorem cut_nodup {l : List Node} (hs : storeOk l = true) (a n : Int) : ((cutV l a n).map (·.f0)).Nodup := (vis_nodup hs).sublist ((cut_sub l a n).map _)
theorem cut_ok {l : List Node} (hs : storeOk l = true) (a n : Int) : ((cutV l a n).map (·.f0)).all dotOk = true := by
 rw [List.all_eq_true]
 intro d hd
 obtain ⟨x, hx, rfl⟩ := List.mem_map.1 (cut_dots hs a n d hd)
 have := (store_of hs).ok x hx
 unfold nodeOk at this
 exact (of_decide_eq_true this).1
theorem kill_cut {l : List Node} (hl : l.length ≤ 1000000) (hs : storeOk l = true) (a n : Int) : store_Kill.f l ((cutV l a n).map (·.f0)) = some (l.map (deadD ((cutV l a n).map (·.f0))), 0) := by
 have h1 : (cutV l a n).length ≤ 1000000 := Nat.le_trans (cut_sub l a n).length_le (Nat.le_trans (vis_len hs) hl)
 unfold store_Kill.f
 rw [if_pos ⟨hl, by rw [List.length_map]; exact h1⟩, if_pos ⟨hs, cut_ok hs a n⟩, killFrom_is hs _ l hs rfl (cut_dots hs a n)]
 rfl
end Go.Proofs.YtmbndijbpgobeaaGreat.PWalk
end
section
namespace Go.Proofs.YtmbndijbpgobeaaGreat.PWalk
open Go.RowKit Go.Proofs.YtmbndijbpgobeaaGreatW.PrintWords Go.Proofs.YtmbndijbpgobeaaGreatW.PrintLast Go.Proofs.YtmbndijbpgobeaaGreatW.PrintMore
set_option linter.unusedVariables false
set_option linter.unusedSimpArgs false
open Go.Shelf
attribute [local go_sem] Oper.semAt_some
set_option maxHeartbeats 1000000 in
set_option maxRecDepth 100000 in
theorem setD_call (A0 : Option Addr) (n c0 : Nat) (xs : List Dot) (w : World) (hn : xs.length = n) (hr0 : Kd.C k25 w A0 n xs) (hl : n ≤ 1000000) (hnd : xs.Nodup) :
  Calls Tryz.prog 45 #[.slice A0 n c0] w fun e w' => ∃ v ys, e = .returned v ∧ RD w' w.heap.size v ys ∧ incB ys = true ∧ ys.Perm xs ∧ Below w.heap.size w w' := by
 have HCL := CloneDot.calls A0 c0 xs w (by rw [hn]; exact hr0) (by rw [hn]; exact hl)
 rw [hn] at HCL
 have HCL := Aside0.mk HCL
 have HND := Aside0.mk hnd
 have Hn := Aside0.mk hn
 have HL := Aside0.mk hl
 clear hr0 hn hnd hl
 go_enter Tryz.func45, Tryz.ntmps45
 go_wp2_with fail
 refine HCL.out.mono ?_
 rintro e w1 ⟨v, rfl, hv, hb⟩
 obtain ⟨A1, c1, rfl⟩ := RD.slice hv
 rw [Hn.out] at hv ⊢
 have HSO := Aside0.mk (sortD_call w.heap.size n (.slice A1 n c1) xs w1 hv (by have h1 := Hn.out; have h2 := HL.out; omega))
 have HV := Aside0.mk hv
 have HB := Aside0.mk hb
 clear hv hb HCL
 go_wp2_with fail
 refine HSO.out.mono ?_
 rintro e w2 ⟨rfl, ys, hys, hperm, hpw, ht⟩
 have hb2 := ht.on HB.out (fun i e => (RD.block HV.out e).1)
 have hinc := adjacent_inc (hperm.nodup_iff.2 HND.out) hpw
 have hyl : ys.length = n := hperm.length_eq.trans Hn.out
 have HC : Kd.C k25 w2 A1 n ys := by
  obtain ⟨A', c', e, _, hC⟩ := Kd.R_reads hys
  cases e
  rw [hyl] at hC
  exact hC
 have HCO := Aside0.mk (compactD_call A1 n c1 ys w2 hyl HC HL.out hinc)
 have HYS := Aside0.mk hys
 have HINC := Aside0.mk hinc
 have HP := Aside0.mk hperm
 have HB2 := Aside0.mk hb2
 clear hys hperm hpw ht hb2 hinc hyl HC HSO
 go_wp2_with fail
 refine HCO.out.mono ?_
 rintro e w3 ⟨rfl, hb⟩
 have HB3 := Aside0.mk hb
 clear hb
 go_wp2
 go_ret
 exact ⟨_, ys, rfl, RD.below' HYS.out HB3.out, HINC.out, HP.out, below_more HB2.out HB3.out⟩
end Go.Proofs.YtmbndijbpgobeaaGreat.PWalk
end
section
namespace Go.Proofs.YtmbndijbpgobeaaGreat.PWalk
open Go.RowKit Go.Proofs.YtmbndijbpgobeaaGreatW.PrintWords Go.Proofs.YtmbndijbpgobeaaGreatW.PrintLast Go.Proofs.YtmbndijbpgobeaaGreatW.PrintMore
attribute [local go_sem] max2_int max_two
set_option linter.unusedVariables false
set_option linter.unusedSimpArgs false
theorem eqA53 (d : Nat) (w : World) (x0 y0 : Int) (x1 y1 : Int) (x2 y2 : Int) (x3 y3 : Int) (x4 y4 : Int) (x5 y5 : Int) :
  (Op.equalIn (d + 3) 53 (.agg #[.int .i64 x0, .int .i64 x1, .int .i64 x2, .int .i64 x3, .int .i64 x4, .int .i32 x5]) (.agg #[.int .i64 y0, .int .i64 y1, .int .i64 y2, .int .i64 y3, .int .i64 y4, .int .i32 y5])).run Tryz.prog w = .ok ((x0 == y0 && (x1 == y1)) && ((x2 == y2 && (x3 == y3)) && (x4 == y4 && (x5 == y5)))) w := by
 refine eqA_of Tryz.underlying53 (by kernel_rfl) ?_
 refine eqf_cons (by rfl) (by go_simp) (by go_simp) (eqA25 (d + 0) w _ _ _ _) ?_
 refine eqf_cons (by rfl) (by go_simp) (by go_simp) (eqA25 (d + 0) w _ _ _ _) ?_
 refine eqf_cons (by rfl) (by go_simp; rfl) (by go_simp; rfl) (by go_simp) ?_
 exact eqf_last (by rfl) (by go_simp; rfl) (by go_simp; rfl) (by go_simp)
end Go.Proofs.YtmbndijbpgobeaaGreat.PWalk
end
section
namespace Go.Proofs.YtmbndijbpgobeaaGreat.PWalk
open Go.RowKit Go.Proofs.YtmbndijbpgobeaaGreatW.PrintWords Go.Proofs.YtmbndijbpgobeaaGreatW.PrintLast Go.Proofs.YtmbndijbpgobeaaGreatW.PrintMore
set_option linter.unusedVariables false
set_option linter.unusedSimpArgs false
open Go.Shelf
attribute [local go_sem] Oper.semAt_some
theorem box_six {V : World} {g : Nat} {c0 c1 c2 c3 c4 c5 : Value} (h : V.heap[g]? = some (.cells #[c0, c1, c2, c3, c4, c5] 53 (0, 0))) :
  V.cell? ⟨g, 0, none⟩ = some c0 ∧ V.cell? ⟨g, 1, none⟩ = some c1 ∧ V.cell? ⟨g, 2, none⟩ = some c2 ∧ V.cell? ⟨g, 3, none⟩ = some c3 ∧ V.cell? ⟨g, 4, none⟩ = some c4 ∧ V.cell? ⟨g, 5, none⟩ = some c5 :=
 ⟨(blk_cell h 0).trans rfl, (blk_cell h 1).trans rfl, (blk_cell h 2).trans rfl, (blk_cell h 3).trans rfl, (blk_cell h 4).trans rfl, (blk_cell h 5).trans rfl⟩
theorem results_box {fn : Func} {p u : Tmp} (h : fn.results = #[.cell p 53, .tmp u]) (tmps : Array Value) (w : World) (g : Nat) (c0 c1 c2 c3 c4 c5 : Value)
  (hp : tmps.getD p undef = .pointer (some ⟨g, 0, none⟩)) (hg : w.heap[g]? = some (.cells #[c0, c1, c2, c3, c4, c5] 53 (0, 0))) :
  (results fn tmps).run Tryz.prog w = .ok (.tuple #[.agg #[c0, c1, c2, c3, c4, c5], tmps.getD u undef]) w := by
 rw [Go.results_cell_tmp h, hp]
 have h2 := run_loadVar_row (P := Tryz.prog) w g 53 53 #[c0, c1, c2, c3, c4, c5] (0, 0) _ hg Tryz.underlying53 rfl (by kernel_rfl)
 simp [asAddr, h2]
section
variable {ops : Array Oper} {rest : List Oper} {o : Oper} {a : Act} {Q : Exit → Act → World → Prop}
/-- The operation: a node is stored into a box. -/
theorem wpList_boxNode (hgd : o.guard = none) (s x : Operand) (ho : o.op = .store 53 s x) (hd : o.dst = none) {w : World} {g : Nat} {c0 c1 c2 c3 c4 c5 : Value}
  (hg : w.heap[g]? = some (.cells #[c0, c1, c2, c3, c4, c5] 53 (0, 0))) (y : Node) (hs : a.eval s = .pointer (some ⟨g, 0, none⟩)) (hx : a.eval x = vNode y)
  (hk : ∀ w', w'.heap[g]? = some (.cells #[.int .i64 y.f0.f0, .int .i64 y.f0.f1, .int .i64 y.f1.f0, .int .i64 y.f1.f1, .int .i64 y.f2, .int .i32 y.f3] 53 (0, 0)) → w.grownBy w' (some g) → wpList Tryz.prog ops Q rest a w') : wpList Tryz.prog ops Q (o :: rest) a w := by
 obtain ⟨i0, hi0, hz0, hz1, hz2⟩ := info_parts infoN
 refine wpList_store_row hgd 53 s x ho g _ hs hx 53 _ hg (by rw [hi0]; show some i0.size = some 6; rw [hz1]) rfl (Array.all_eq_true_iff_forall_mem.2 (by intro v hv; simp at hv; rcases hv with rfl | rfl | rfl | rfl | rfl | rfl <;> rfl)) ?_
 rw [hd]
 exact hk _ (setRow_at hg _) (setRow_grown w g _)
end
def nodeZ : Node := ⟨⟨0, 0⟩, ⟨0, 0⟩, 0, 0⟩
/-- What two nodes with one dot are together. -/
def mergeN (x y : Node) : Option Node := if x.f1 = y.f1 ∧ x.f2 = y.f2 ∧ (x.f3 = y.f3 ∨ x.f3 = 0 ∨ y.f3 = 0) then some (if y.f3 = 0 then y else x) else none
def mergeV (x y : Node) : Value := match mergeN x y with | some z => .tuple #[vNode z, .int .i64 0] | none => .tuple #[vNode nodeZ, .int .i64 15]
theorem ne_node (x y : Node) : (!(x.f0.f0 == y.f0.f0) || !(x.f0.f1 == y.f0.f1) || (!(x.f1.f0 == y.f1.f0) || !(x.f1.f1 == y.f1.f1) || (!(x.f2 == y.f2) || !(x.f3 == y.f3)))) = decide (x ≠ y) := by
 rw [Bool.eq_iff_iff]
 simp only [Bool.or_eq_true, Bool.not_eq_true', beq_eq_false_iff_ne, decide_eq_true_eq]
 simp only [ne_eq, Node.ext_iff', Dot.ext_iff']
 by_cases a : x.f0.f0 = y.f0.f0 <;> by_cases b : x.f0.f1 = y.f0.f1 <;> by_cases c : x.f1.f0 = y.f1.f0 <;> by_cases d : x.f1.f1 = y.f1.f1 <;> simp [a, b, c, d] <;> omega
theorem merge_cond {x y : Node} {p q da db : Bool} (hd : x.f0 = y.f0) (hp : decide (deadN x ≠ deadN y) = p) (hq : decide (x ≠ y) = q) (ha : (x.f3 == 0) = da) (hb : (y.f3 == 0) = db) :
  ((p || ((q && !da) && !db)) = true → mergeN x y = none) ∧ ((p || ((q && !da) && !db)) = false → mergeN x y = some (if y.f3 = 0 then y else x)) := by
 have e1 : deadN x = deadN y ↔ x.f1 = y.f1 ∧ x.f2 = y.f2 := ⟨fun h => by have := Node.ext_iff'.1 h; exact ⟨this.2.1, this.2.2.1⟩, fun h => Node.ext_iff'.2 ⟨hd, h.1, h.2, rfl⟩⟩
 have e2 : x = y ↔ x.f1 = y.f1 ∧ x.f2 = y.f2 ∧ x.f3 = y.f3 := ⟨fun h => by rw [h]; exact ⟨rfl, rfl, rfl⟩, fun h => Node.ext_iff'.2 ⟨hd, h.1, h.2.1, h.2.2⟩⟩
 subst hp hq ha hb
 unfold mergeN
 simp only [ne_eq, e1, e2, Bool.or_eq_true, Bool.and_eq_true, Bool.not_eq_true', Bool.or_eq_false_iff, decide_eq_true_eq, decide_eq_false_iff_not, beq_eq_false_iff_ne]
 by_cases h1 : x.f1 = y.f1 <;> by_cases h2 : x.f2 = y.f2 <;> by_cases h3 : x.f3 = y.f3 <;> by_cases h4 : x.f3 = 0 <;> by_cases h5 : y.f3 = 0 <;> simp_all
abbrev boxZ : Obj := .cells #[.int .i64 0, .int .i64 0, .int .i64 0, .int .i64 0, .int .i64 0, .int .i32 0] 53 (0, 0)
def mergeInv (W0 : World) (gA gB : Nat) (x y : Node) (p q da db : Bool) (z0 z1 z4 z5 z6 z7 z8 z9 z10 z11 z12 z13 z14 z15 z16 z17 z18 z19 z20 z21 z22 z23 z24 z25 z26 z27 z28 z29 z30 z31 z32 z33 z34 z35 z36 z37 z38 z39 z40 z41 z42 : Value) (L : Array Bool) (ac : Act) (V : World) : Prop := ∃ (l0 l1 l2 l3 l4 l5 l6 l7 l8 l9 l10 l11 l12 l13 l14 l15 l16 l17 l18 l19 l20 : Bool), L = #[l0, l1, l2, l3, l4, l5, l6, l7, l8, l9, l10, l11, l12, l13, l14, l15, l16, l17, l18, l19, l20] ∧ ac = { tmps := #[z0, z1, .pointer (some ⟨gA, 0, none⟩), .pointer (some ⟨gB, 0, none⟩), z4, z5, z6, z7, z8, z9, z10, z11, z12, z13, z14, z15, selv l20 (.bool (p || ((q && !da) && !db))) (z16), selv l0 (vNode x) (z17), selv l1 (vNode (deadN x)) (z18), selv l2 (vNode y) (z19), selv l3 (vNode (deadN y)) (z20), selv l4 (.bool p) (z21), selv l5 (.bool p) (z22), selv l6 (selv p (z23) (vNode x)) (z23), selv l7 (selv p (z24) (vNode y)) (z24), selv l8 (selv p (z25) (.bool q)) (z25), selv l9 (selv p (z26) (.bool q)) (z26), selv l10 (selv p (z27) (selv q (vNode x) (z27))) (z27), selv l11 (selv p (z28) (selv q (.bool da) (z28))) (z28), selv l12 (selv p (z29) (selv q (.bool (!da)) (z29))) (z29), selv l13 (selv p (z30) (.bool (q && !da))) (z30), selv l14 (selv p (z31) (.bool (q && !da))) (z31), selv l15 (selv p (z32) (selv q (selv da (z32) (vNode y)) (z32))) (z32), selv l16 (selv p (z33) (selv q (selv da (z33) (.bool db)) (z33))) (z33), selv l17 (selv p (z34) (selv q (selv da (z34) (.bool (!db))) (z34))) (z34), selv l18 (selv p (z35) (.bool ((q && !da) && !db))) (z35), selv l19 (.bool (p || ((q && !da) && !db))) (z36), z37, z38, z39, z40, z41, z42], defers := [] } ∧ Aside0 (Below W0.heap.size W0 V)
attribute [local go_sem high] eqA53
set_option maxHeartbeats 4000000 in
set_option maxRecDepth 100000 in
theorem merge_call (x y : Node) (w : World) (hx : nodeOk x = true) (hy : nodeOk y = true) (hd : x.f0 = y.f0) :
  Calls Tryz.prog 85 #[vNode x, vNode y] w fun e w' => e = .returned (mergeV x y) ∧ Below w.heap.size w w' := by
 have HXV := Aside0.mk (fun W => node_Valid.calls 1 x.f0.f0 x.f0.f1 x.f1.f0 x.f1.f1 x.f2 x.f3 true W (by rw [nodeValid_is, hx]))
 have HYV := Aside0.mk (fun W => node_Valid.calls 1 y.f0.f0 y.f0.f1 y.f1.f0 y.f1.f1 y.f2 y.f3 true W (by rw [nodeValid_is, hy]))
 have HD := Aside0.mk hd
 have HB := Aside0.mk (below_alloc (below_alloc (below_alloc (Below.refl _ w) (boxN x)) (boxN y)) boxZ)
 have HXA := Aside0.mk (blk_keep (blk_new w (boxN x)) ((Gr.alloc (w.alloc (boxN x)) (boxN y)).trans (Gr.alloc _ boxZ)).below)
 have hxb := blk_keep (blk_new (w.alloc (boxN x)) (boxN y)) (Gr.alloc ((w.alloc (boxN x)).alloc (boxN y)) boxZ).below
 have hxz := blk_new ((w.alloc (boxN x)).alloc (boxN y)) boxZ
 rw [show (w.alloc (boxN x)).heap.size = w.heap.size + 1 by simp] at hxb
 rw [show ((w.alloc (boxN x)).alloc (boxN y)).heap.size = w.heap.size + 2 by simp] at hxz
 have HXB := Aside0.mk hxb
 have HXZ := Aside0.mk hxz
 obtain ⟨x0, x1, x2, x3, x4, x5⟩ := box_six HXA.out
 clear hx hy hd hxb hxz
 go_enter Tryz.func85, Tryz.ntmps85
 go_wp2_with fail
 clear x0 x1 x2 x3 x4 x5
 refine (HXV.out _).mono ?_
 rintro e V1 ⟨rfl, hb⟩
 have HXA := Aside0.mk (blk_keep HXA.out hb)
 have HXB := Aside0.mk (blk_keep HXB.out hb)
 have HXZ := Aside0.mk (blk_keep HXZ.out hb)
 have HB := Aside0.mk (below_more HB.out hb)
 clear hb
 obtain ⟨x0, x1, x2, x3, x4, x5⟩ := box_six HXB.out
 go_wp2_with fail
 clear x0 x1 x2 x3 x4 x5
 refine (HYV.out _).mono ?_
 rintro e V2 ⟨rfl, hb⟩
 have HXA := Aside0.mk (blk_keep HXA.out hb)
 have HXB := Aside0.mk (blk_keep HXB.out hb)
 have HXZ := Aside0.mk (blk_keep HXZ.out hb)
 have HB := Aside0.mk (below_more HB.out hb)
 clear hb HXV HYV
 go_wp2_with fail
 obtain ⟨p, HPD⟩ : ∃ b, Aside0 (decide (deadN x ≠ deadN y) = b) := ⟨_, ⟨rfl⟩⟩
 obtain ⟨q, HQD⟩ : ∃ b, Aside0 (decide (x ≠ y) = b) := ⟨_, ⟨rfl⟩⟩
 obtain ⟨da, HDA⟩ : ∃ b, Aside0 ((x.f3 == 0) = b) := ⟨_, ⟨rfl⟩⟩
 obtain ⟨db, HDB⟩ : ∃ b, Aside0 ((y.f3 == 0) = b) := ⟨_, ⟨rfl⟩⟩
 have HP := Aside0.mk ((ne_node (deadN x) (deadN y)).trans HPD.out)
 have HQ := Aside0.mk ((ne_node x y).trans HQD.out)
 have HMN := Aside0.mk (merge_cond HD.out HPD.out HQD.out HDA.out HDB.out)
 refine AnyOrder.wp_region (by kernel_rfl) (mergeInv V2.drew w.heap.size (w.heap.size + 1) x y p q da db _ _ _ _ _ _ _ _ _ _ _ _ _ _ _ _ _ _ _ _ _ _ _ _ _ _ _ _ _ _ _ _ _ _ _ _ _ _ _ _ _) ⟨false, false, false, false, false, false, false, false, false, false, false, false, false, false, false, false, false, false, false, false, false, rfl, rfl, ⟨Below.refl _ _⟩⟩ ?step ?last
 case step =>
  rintro L ac V i ⟨l0, l1, l2, l3, l4, l5, l6, l7, l8, l9, l10, l11, l12, l13, l14, l15, l16, l17, l18, l19, l20, rfl, rfl, HF⟩ hi K hK
  rcases AnyOrder.up hi [0, 1, 2, 3, 4, 5, 20, 6, 7, 8, 9, 14, 10, 11, 12, 13, 15, 16, 17, 18, 19] rfl with rfl | rfl | rfl | rfl | rfl | rfl | rfl | rfl | rfl | rfl | rfl | rfl | rfl | rfl | rfl | rfl | rfl | rfl | rfl | rfl | rfl
  all_goals
   replace hi := AnyOrder.first hi rfl
   repeat (obtain ⟨ha, hi⟩ := hi; first | obtain rfl := ha | clear ha)
   clear hi
   try simp only [sel_true, selv_true] at hK ⊢
  ·
   have hx := blk_keep (blk_drew HXA.out) HF.out
   obtain ⟨x0, x1, x2, x3, x4, x5⟩ := box_six hx
   refine AnyOrder.wpOp_go rfl (by rfl) ?_
   go_wp2_with fail
   exact ⟨_, _, _, _, _, _, _, _, _, _, _, _, _, _, _, _, _, _, _, _, _, rfl, rfl, HF⟩
  ·
   refine AnyOrder.wpOp_go rfl (by rfl) ?_
   go_wp2_with fail
   refine (node_Kill.calls x.f0.f0 x.f0.f1 x.f1.f0 x.f1.f1 x.f2 x.f3 _ _ _ _ _ _ V rfl).mono ?_
   rintro e V' ⟨rfl, hb⟩
   exact hK _ _ ⟨_, _, _, _, _, _, _, _, _, _, _, _, _, _, _, _, _, _, _, _, _, rfl, rfl, ⟨below_more HF.out hb⟩⟩
  ·
   have hx := blk_keep (blk_drew HXB.out) HF.out
   obtain ⟨x0, x1, x2, x3, x4, x5⟩ := box_six hx
   refine AnyOrder.wpOp_go rfl (by rfl) ?_
   go_wp2_with fail
   exact ⟨_, _, _, _, _, _, _, _, _, _, _, _, _, _, _, _, _, _, _, _, _, rfl, rfl, HF⟩
  ·
   refine AnyOrder.wpOp_go rfl (by rfl) ?_
   go_wp2_with fail
   refine (node_Kill.calls y.f0.f0 y.f0.f1 y.f1.f0 y.f1.f1 y.f2 y.f3 _ _ _ _ _ _ V rfl).mono ?_
   rintro e V' ⟨rfl, hb⟩
   exact hK _ _ ⟨_, _, _, _, _, _, _, _, _, _, _, _, _, _, _, _, _, _, _, _, _, rfl, rfl, ⟨below_more HF.out hb⟩⟩
  ·
   refine AnyOrder.wpOp_go rfl (by rfl) ?_
   go_wp2_with fail
   rw [HP.out]
   exact ⟨_, _, _, _, _, _, _, _, _, _, _, _, _, _, _, _, _, _, _, _, _, rfl, rfl, HF⟩
  iterate 2
   ·
    refine AnyOrder.wpOp_go rfl (by rfl) ?_
    go_wp2_with fail
    exact ⟨_, _, _, _, _, _, _, _, _, _, _, _, _, _, _, _, _, _, _, _, _, rfl, rfl, HF⟩
  ·
   cases p
   ·
    have hx := blk_keep (blk_drew HXA.out) HF.out
    obtain ⟨x0, x1, x2, x3, x4, x5⟩ := box_six hx
    refine AnyOrder.wpOp_go rfl (by rfl) ?_
    go_wp2_with fail
    exact ⟨_, _, _, _, _, _, _, _, _, _, _, _, _, _, _, _, _, _, _, _, _, rfl, rfl, HF⟩
   ·
    refine AnyOrder.wpOp_out rfl (by rfl) ?_
    exact hK _ _ ⟨_, _, _, _, _, _, _, _, _, _, _, _, _, _, _, _, _, _, _, _, _, rfl, rfl, HF⟩
  ·
   cases p
   ·
    have hx := blk_keep (blk_drew HXB.out) HF.out
    obtain ⟨x0, x1, x2, x3, x4, x5⟩ := box_six hx
    refine AnyOrder.wpOp_go rfl (by rfl) ?_
    go_wp2_with fail
    exact ⟨_, _, _, _, _, _, _, _, _, _, _, _, _, _, _, _, _, _, _, _, _, rfl, rfl, HF⟩
   ·
    refine AnyOrder.wpOp_out rfl (by rfl) ?_
    exact hK _ _ ⟨_, _, _, _, _, _, _, _, _, _, _, _, _, _, _, _, _, _, _, _, _, rfl, rfl, HF⟩
  ·
   cases p
   ·
    refine AnyOrder.wpOp_go rfl (by rfl) ?_
    go_wp2_with fail
    rw [HQ.out]
    exact ⟨_, _, _, _, _, _, _, _, _, _, _, _, _, _, _, _, _, _, _, _, _, rfl, rfl, HF⟩
   ·
    refine AnyOrder.wpOp_out rfl (by rfl) ?_
    exact hK _ _ ⟨_, _, _, _, _, _, _, _, _, _, _, _, _, _, _, _, _, _, _, _, _, rfl, rfl, HF⟩
  iterate 2
   ·
    cases p
    ·
     refine AnyOrder.wpOp_go rfl (by rfl) ?_
     go_wp2_with fail
     exact ⟨_, _, _, _, _, _, _, _, _, _, _, _, _, _, _, _, _, _, _, _, _, rfl, rfl, HF⟩
    ·
     refine AnyOrder.wpOp_out rfl (by rfl) ?_
     exact hK _ _ ⟨_, _, _, _, _, _, _, _, _, _, _, _, _, _, _, _, _, _, _, _, _, rfl, rfl, HF⟩
  ·
   cases p
   ·
    cases q
    ·
     refine AnyOrder.wpOp_out rfl (by rfl) ?_
     exact hK _ _ ⟨_, _, _, _, _, _, _, _, _, _, _, _, _, _, _, _, _, _, _, _, _, rfl, rfl, HF⟩
    ·
     have hx := blk_keep (blk_drew HXA.out) HF.out
     obtain ⟨x0, x1, x2, x3, x4, x5⟩ := box_six hx
     refine AnyOrder.wpOp_go rfl (by rfl) ?_
     go_wp2_with fail
     exact ⟨_, _, _, _, _, _, _, _, _, _, _, _, _, _, _, _, _, _, _, _, _, rfl, rfl, HF⟩
   ·
    refine AnyOrder.wpOp_out rfl (by rfl) ?_
    exact hK _ _ ⟨_, _, _, _, _, _, _, _, _, _, _, _, _, _, _, _, _, _, _, _, _, rfl, rfl, HF⟩
  ·
   cases p
   ·
    cases q
    ·
     refine AnyOrder.wpOp_out rfl (by rfl) ?_
     exact hK _ _ ⟨_, _, _, _, _, _, _, _, _, _, _, _, _, _, _, _, _, _, _, _, _, rfl, rfl, HF⟩
    ·
     refine AnyOrder.wpOp_go rfl (by rfl) ?_
     go_wp2_with fail
     refine (node_Dead.calls x.f0.f0 x.f0.f1 x.f1.f0 x.f1.f1 x.f2 x.f3 da V (by unfold node_Dead.f; rw [HDA.out])).mono ?_
     rintro e V' ⟨rfl, hb⟩
     exact hK _ _ ⟨_, _, _, _, _, _, _, _, _, _, _, _, _, _, _, _, _, _, _, _, _, rfl, rfl, ⟨below_more HF.out hb⟩⟩
   ·
    refine AnyOrder.wpOp_out rfl (by rfl) ?_
    exact hK _ _ ⟨_, _, _, _, _, _, _, _, _, _, _, _, _, _, _, _, _, _, _, _, _, rfl, rfl, HF⟩
  ·
   cases p
   ·
    cases q
    ·
     refine AnyOrder.wpOp_out rfl (by rfl) ?_
     exact hK _ _ ⟨_, _, _, _, _, _, _, _, _, _, _, _, _, _, _, _, _, _, _, _, _, rfl, rfl, HF⟩
    ·
     refine AnyOrder.wpOp_go rfl (by rfl) ?_
     go_wp2_with fail
     exact ⟨_, _, _, _, _, _, _, _, _, _, _, _, _, _, _, _, _, _, _, _, _, rfl, rfl, HF⟩
   ·
    refine AnyOrder.wpOp_out rfl (by rfl) ?_
    exact hK _ _ ⟨_, _, _, _, _, _, _, _, _, _, _, _, _, _, _, _, _, _, _, _, _, rfl, rfl, HF⟩
  ·
   cases p
   ·
    cases q
    ·
     refine AnyOrder.wpOp_go rfl (by rfl) ?_
     go_wp2_with fail
     exact ⟨_, _, _, _, _, _, _, _, _, _, _, _, _, _, _, _, _, _, _, _, _, rfl, rfl, HF⟩
    ·
     refine AnyOrder.wpOp_go rfl (by rfl) ?_
     go_wp2_with fail
     exact ⟨_, _, _, _, _, _, _, _, _, _, _, _, _, _, _, _, _, _, _, _, _, rfl, rfl, HF⟩
   ·
    refine AnyOrder.wpOp_out rfl (by rfl) ?_
    exact hK _ _ ⟨_, _, _, _, _, _, _, _, _, _, _, _, _, _, _, _, _, _, _, _, _, rfl, rfl, HF⟩
  ·
   cases p
   ·
    cases q
    ·
     refine AnyOrder.wpOp_out rfl (by rfl) ?_
     exact hK _ _ ⟨_, _, _, _, _, _, _, _, _, _, _, _, _, _, _, _, _, _, _, _, _, rfl, rfl, HF⟩
    ·
     cases da
     ·
      have hx := blk_keep (blk_drew HXB.out) HF.out
      obtain ⟨x0, x1, x2, x3, x4, x5⟩ := box_six hx
      refine AnyOrder.wpOp_go rfl (by rfl) ?_
      go_wp2_with fail
      exact ⟨_, _, _, _, _, _, _, _, _, _, _, _, _, _, _, _, _, _, _, _, _, rfl, rfl, HF⟩
     ·
      refine AnyOrder.wpOp_out rfl (by rfl) ?_
      exact hK _ _ ⟨_, _, _, _, _, _, _, _, _, _, _, _, _, _, _, _, _, _, _, _, _, rfl, rfl, HF⟩
   ·
    refine AnyOrder.wpOp_out rfl (by rfl) ?_
    exact hK _ _ ⟨_, _, _, _, _, _, _, _, _, _, _, _, _, _, _, _, _, _, _, _, _, rfl, rfl, HF⟩
  ·
   cases p
   ·
    cases q
    ·
     refine AnyOrder.wpOp_out rfl (by rfl) ?_
     exact hK _ _ ⟨_, _, _, _, _, _, _, _, _, _, _, _, _, _, _, _, _, _, _, _, _, rfl, rfl, HF⟩
    ·
     cases da
     ·
      refine AnyOrder.wpOp_go rfl (by rfl) ?_
      go_wp2_with fail
      refine (node_Dead.calls y.f0.f0 y.f0.f1 y.f1.f0 y.f1.f1 y.f2 y.f3 db V (by unfold node_Dead.f; rw [HDB.out])).mono ?_
      rintro e V' ⟨rfl, hb⟩
      exact hK _ _ ⟨_, _, _, _, _, _, _, _, _, _, _, _, _, _, _, _, _, _, _, _, _, rfl, rfl, ⟨below_more HF.out hb⟩⟩
     ·
      refine AnyOrder.wpOp_out rfl (by rfl) ?_
      exact hK _ _ ⟨_, _, _, _, _, _, _, _, _, _, _, _, _, _, _, _, _, _, _, _, _, rfl, rfl, HF⟩
   ·
    refine AnyOrder.wpOp_out rfl (by rfl) ?_
    exact hK _ _ ⟨_, _, _, _, _, _, _, _, _, _, _, _, _, _, _, _, _, _, _, _, _, rfl, rfl, HF⟩
  ·
   cases p
   ·
    cases q
    ·
     refine AnyOrder.wpOp_out rfl (by rfl) ?_
     exact hK _ _ ⟨_, _, _, _, _, _, _, _, _, _, _, _, _, _, _, _, _, _, _, _, _, rfl, rfl, HF⟩
    ·
     cases da
     ·
      refine AnyOrder.wpOp_go rfl (by rfl) ?_
      go_wp2_with fail
      exact ⟨_, _, _, _, _, _, _, _, _, _, _, _, _, _, _, _, _, _, _, _, _, rfl, rfl, HF⟩
     ·
      refine AnyOrder.wpOp_out rfl (by rfl) ?_
      exact hK _ _ ⟨_, _, _, _, _, _, _, _, _, _, _, _, _, _, _, _, _, _, _, _, _, rfl, rfl, HF⟩
   ·
    refine AnyOrder.wpOp_out rfl (by rfl) ?_
    exact hK _ _ ⟨_, _, _, _, _, _, _, _, _, _, _, _, _, _, _, _, _, _, _, _, _, rfl, rfl, HF⟩
  ·
   cases p
   ·
    cases q
    ·
     refine AnyOrder.wpOp_go rfl (by rfl) ?_
     go_wp2_with fail
     exact ⟨_, _, _, _, _, _, _, _, _, _, _, _, _, _, _, _, _, _, _, _, _, rfl, rfl, HF⟩
    ·
     cases da
     ·
      refine AnyOrder.wpOp_go rfl (by rfl) ?_
      go_wp2_with fail
      exact ⟨_, _, _, _, _, _, _, _, _, _, _, _, _, _, _, _, _, _, _, _, _, rfl, rfl, HF⟩
     ·
      refine AnyOrder.wpOp_go rfl (by rfl) ?_
      go_wp2_with fail
      exact ⟨_, _, _, _, _, _, _, _, _, _, _, _, _, _, _, _, _, _, _, _, _, rfl, rfl, HF⟩
   ·
    refine AnyOrder.wpOp_out rfl (by rfl) ?_
    exact hK _ _ ⟨_, _, _, _, _, _, _, _, _, _, _, _, _, _, _, _, _, _, _, _, _, rfl, rfl, HF⟩
  ·
   cases p
   ·
    refine AnyOrder.wpOp_go rfl (by rfl) ?_
    go_wp2_with fail
    exact ⟨_, _, _, _, _, _, _, _, _, _, _, _, _, _, _, _, _, _, _, _, _, rfl, rfl, HF⟩
   ·
    refine AnyOrder.wpOp_go rfl (by rfl) ?_
    go_wp2_with fail
    exact ⟨_, _, _, _, _, _, _, _, _, _, _, _, _, _, _, _, _, _, _, _, _, rfl, rfl, HF⟩
 case last =>
  rintro L ac V ⟨l0, l1, l2, l3, l4, l5, l6, l7, l8, l9, l10, l11, l12, l13, l14, l15, l16, l17, l18, l19, l20, rfl, rfl, HF⟩ hr
  obtain ⟨rfl, rfl, rfl, rfl, rfl, rfl, rfl, rfl, rfl, rfl, rfl, rfl, rfl, rfl, rfl, rfl, rfl, rfl, rfl, rfl, rfl, -⟩ := AnyOrder.alls rfl (by kernel_rfl) hr
  clear hr
  simp only [sel_true, selv_true]
  clear HP HQ
  have HB := Aside0.mk (below_more HB.out (below_more (below_drew1 (Below.refl _ V2)) HF.out))
  have HXA := Aside0.mk (blk_keep (blk_drew HXA.out) HF.out)
  have HXB := Aside0.mk (blk_keep (blk_drew HXB.out) HF.out)
  have HXZ := Aside0.mk (blk_keep (blk_drew HXZ.out) HF.out)
  clear HF
  cases hs : (p || ((q && !da) && !db)) with
  | true =>
   have HM := Aside0.mk (HMN.out.1 hs)
   clear hs
   go_wp2_with (refine wpList_boxNode rfl (.tmp 4) (.tmp 37) rfl rfl HXZ.out nodeZ rfl rfl ?_; intro V4 hz4 hg4)
   have HB4 := Aside0.mk (grown_on hg4 HB.out (fun k e => by cases e; omega))
   have HZ4 := Aside0.mk hz4
   refine bodyPost_ret (results_box rfl _ _ _ _ _ _ _ _ _ rfl HZ4.out) rfl ?_
   exact ⟨by unfold mergeV; rw [HM.out]; rfl, HB4.out⟩
  | false =>
   have HM := Aside0.mk (HMN.out.2 hs)
   clear hs
   obtain ⟨x0, x1, x2, x3, x4, x5⟩ := box_six HXB.out
   go_wp2_with fail
   clear x0 x1 x2 x3 x4 x5
   refine (node_Dead.calls y.f0.f0 y.f0.f1 y.f1.f0 y.f1.f1 y.f2 y.f3 db V (by unfold node_Dead.f; rw [HDB.out])).mono ?_
   rintro e V3 ⟨rfl, hb⟩
   have HXA := Aside0.mk (blk_keep HXA.out hb)
   have HXB := Aside0.mk (blk_keep HXB.out hb)
   have HXZ := Aside0.mk (blk_keep HXZ.out hb)
   have HB := Aside0.mk (below_more HB.out hb)
   clear hb
   cases db with
   | true =>
    obtain ⟨x0, x1, x2, x3, x4, x5⟩ := box_six HXB.out
    go_wp2_with (refine wpList_boxNode rfl (.tmp 4) (.tmp 41) rfl rfl HXZ.out y rfl rfl ?_; intro V4 hz4 hg4)
    have HB4 := Aside0.mk (grown_on hg4 HB.out (fun k e => by cases e; omega))
    have HZ4 := Aside0.mk hz4
    refine bodyPost_ret (results_box rfl _ _ _ _ _ _ _ _ _ rfl HZ4.out) rfl ?_
    exact ⟨by unfold mergeV; rw [HM.out, if_pos (beq_iff_eq.1 HDB.out)]; rfl, HB4.out⟩
   | false =>
    obtain ⟨x0, x1, x2, x3, x4, x5⟩ := box_six HXA.out
    go_wp2_with (refine wpList_boxNode rfl (.tmp 4) (.tmp 42) rfl rfl HXZ.out x rfl rfl ?_; intro V4 hz4 hg4)
    have HB4 := Aside0.mk (grown_on hg4 HB.out (fun k e => by cases e; omega))
    have HZ4 := Aside0.mk hz4
    refine bodyPost_ret (results_box rfl _ _ _ _ _ _ _ _ _ rfl HZ4.out) rfl ?_
    exact ⟨by unfold mergeV; rw [HM.out, if_neg (beq_eq_false_iff_ne.1 HDB.out)]; rfl, HB4.out⟩
end Go.Proofs.YtmbndijbpgobeaaGreat.PWalk
end
section
namespace Go.Proofs.YtmbndijbpgobeaaGreat.PWalk
open Go.RowKit Go.Proofs.YtmbndijbpgobeaaGreatW.PrintWords Go.Proofs.YtmbndijbpgobeaaGreatW.PrintLast Go.Proofs.YtmbndijbpgobeaaGreatW.PrintMore
set_option linter.unusedVariables false
set_option linter.unusedSimpArgs false
open Go.Shelf
attribute [local go_sem] Oper.semAt_some
theorem op_append_rows {T : TypeId} (hT : Tryz.prog.underlying T = some (.slice 53)) {o : Oper} {a : Act} {K : Act → World → Prop} {Q : Exit → Act → World → Prop} {W : World} (base : Nat) (hgd : o.guard = none) (s x : Operand)
  (ho : o.op = .call { callee := .builtin .append, args := #[s, x], argTypes := #[T, T] }) (v : Value) (xs ys : List Node) (A : Option Addr) (m c : Nat) (hs : a.eval s = v) (hx : a.eval x = .slice A m c)
  (hr : RN W base v xs) (hc : Kd.C k53 W A m ys) (hb : base ≤ W.heap.size) (hl : xs.length + m ≤ 1000000)
  (h : ∀ v1 w1, RN w1 base v1 (xs ++ ys) → W.grownBy w1 v.ownBlock → (v1.ownBlock = v.ownBlock ∨ ∃ b, v1.ownBlock = some b ∧ W.heap.size ≤ b) → K (a.put o.dst v1) w1) : o.wp Tryz.prog a W K Q := by
 have hw : Region.wanted o (yielded #[] a.tmps) = true := by simp [Region.wanted, hgd]
 have := Kd.R_append_rows_step (P := Tryz.prog) (ops := #[]) (Q := Q) (Kc := K) k53 (w0 := W) base hw s x T 53 (.agg #[(.int .i64 0), (.int .i64 0), (.int .i64 0), (.int .i64 0), (.int .i64 0), (.int .i32 0)]) 48 ho hT info53 rfl (by decide) (by decide) v xs ys A m c (fun _ => True) (fun _ => False) hs hx hr hc (fun x cs h => (by rw [k53_open h]; exact k53_mkM _ _ _ x)) (fun _ hk => hk.elim) (fun _ _ => trivial) (Below.refl _ _) hb (by omega)
  (fun v1 w1 h1 _ h3 h4 => h v1 w1 h1 h3 h4)
 rwa [if_pos hw] at this
theorem app_rows {T : TypeId} (hT : Tryz.prog.underlying T = some (.slice 53)) {ops : Array Oper} {Q : Exit → Act → World → Prop} {o : Oper} {rest : List Oper} {a : Act} {W : World} (base : Nat) (hgd : o.guard = none) (s x : Operand)
  (ho : o.op = .call { callee := .builtin .append, args := #[s, x], argTypes := #[T, T] }) (v : Value) (xs ys : List Node) (A : Option Addr) (m c : Nat) (hs : a.eval s = v) (hx : a.eval x = .slice A m c)
  (hr : RN W base v xs) (hc : Kd.C k53 W A m ys) (hb : base ≤ W.heap.size) (hl : xs.length + m ≤ 1000000)
  (h : ∀ v1 w1, RN w1 base v1 (xs ++ ys) → W.grownBy w1 v.ownBlock → wpList Tryz.prog ops Q rest (a.put o.dst v1) w1) : wpList Tryz.prog ops Q (o :: rest) a W := by
 refine Kd.R_append_rows k53 (w0 := W) base hgd s x T 53 (.agg #[(.int .i64 0), (.int .i64 0), (.int .i64 0), (.int .i64 0), (.int .i64 0), (.int .i32 0)]) 48 ho hT info53 rfl (by decide) (by decide) v xs ys A m c (fun _ => True) (fun _ => False) hs hx hr hc (fun x cs h => (by rw [k53_open h]; exact k53_mkM _ _ _ x)) (fun _ hk => hk.elim) (fun _ _ => trivial) (Below.refl _ _) hb (by omega) ?_
 intro v1 w1 h1 _ h3 _
 exact h v1 w1 h1 h3
theorem cut_fromT {T : TypeId} (hT : Tryz.prog.underlying T = some (.slice 53)) {A : Option Addr} {n c k : Nat} (hm : k ≤ n) (W : World) : (Instr.sliceAt T (.slice A n c) (some (.int .i64 (k : Int))) none none).run Tryz.prog W = .ok (.slice (if c = k then A else A.map (·.add (k * 6))) (n - k) (c - k)) W := by
 obtain ⟨i, hi, _, hs, _⟩ := info_get infoN
 exact run_sliced hT (cut_from _ _ .i64 hT hi 6 hs A n c (k : Int) (by omega) (by omega) W)
/-- All but the first of a row. -/
theorem tail_row {T : TypeId} (hT : Tryz.prog.underlying T = some (.slice 53)) {w : World} {A : Option Addr} {n c : Nat} {x : Node} {l : List Node} (h : Kd.C k53 w A n (x :: l)) (hc : n ≤ c) :
  ∃ (A' : Option Addr) (c' : Nat), Kd.C k53 w A' l.length l ∧ l.length ≤ c' ∧ ∀ W, (Instr.sliceAt T (.slice A n c) (some (.int .i64 1)) none none).run Tryz.prog W = .ok (.slice A' l.length c') W := by
 have hn : (x :: l).length = n := Kd.C_len h
 have h1 := C_from h hn (k := 1) (by rw [← hn]; simp) hc
 have e : n - 1 = l.length := by rw [← hn]; simp
 rw [e] at h1
 refine ⟨_, c - 1, h1, by omega, fun W => ?_⟩
 have := cut_fromT hT (A := A) (n := n) (c := c) (k := 1) (by rw [← hn]; simp) W
 rw [e] at this
 exact this
/-- A slice of nodes that was laid just now. -/
theorem lit_nodes (W : World) (base : Nat) (hb : base ≤ W.heap.size) (xs : List Node) (n : Nat) (hn : xs.length = n) (hp : 0 < n) (hm : n ≤ 1000000) (cs : Array Value) (hcs : cs.toList = cellsOf xs) :
  Kd.R k53 53 (W.alloc (.cells cs 53 (0, 0))) base (fun _ => True) (.slice (some ⟨W.heap.size, 0, none⟩) n n) xs := by
 subst hn
 have hsz : cs.size = xs.length * 6 := by rw [← Array.length_toList, hcs, cellsOf_length]
 refine R_of_cells ⟨cellsOf_length _, .inr ⟨W.heap.size, xs.length, cs, rfl, hb, blk_new _ _, Nat.le_refl _, (show xs.length ≤ 9223372036854775807 by omega), hsz, ?_⟩⟩ (fun _ _ => trivial)
 rw [← hcs, List.take_of_length_le (by rw [Array.length_toList]; omega)]
end Go.Proofs.YtmbndijbpgobeaaGreat.PWalk
end
section
namespace Go.Proofs.YtmbndijbpgobeaaGreat.PWalk
open Go.RowKit Go.Proofs.YtmbndijbpgobeaaGreatW.PrintWords Go.Proofs.YtmbndijbpgobeaaGreatW.PrintLast Go.Proofs.YtmbndijbpgobeaaGreatW.PrintMore
attribute [local go_sem] max2_int max_two
set_option linter.unusedVariables false
set_option linter.unusedSimpArgs false
def index_Left.j0 : Nat → Int → List (S53) → Int → Option (Int × Int × Int)
 | 0, _, _, _ => none
 | k + 1, x1, x6, x7 => if x7 = 0 then (if x1 = 0 then (some (0, 0, 0)) else (if 0 ≤ (wrap64 (x1 - 1)) then (if (wrap64 (x1 - 1)) < (x6.length : Int) then (some ((rd_T53 x6 (wrap64 (x1 - 1))).f0.f0, (rd_T53 x6 (wrap64 (x1 - 1))).f0.f1, 0)) else (none)) else (none))) else (some (0, 0, x7))
def index_Left.f (k : Nat) (l0 : List (S53)) (a1 : Int) : Option (Int × Int × Int) := (index_visible.f l0).bind fun bt167 => (if a1 < 0 then ((index_when.f true 3).bind fun t171 => ((index_first.f k (([bt167.2, t171] : List Int))).bind fun t175 => (index_Left.j0 k a1 bt167.1 t175))) else ((index_when.f (decide (a1 > (bt167.1.length : Int))) 3).bind fun t176 => ((index_first.f k (([bt167.2, t176] : List Int))).bind fun t180 => (index_Left.j0 k a1 bt167.1 t180))))
set_option maxHeartbeats 8000000 in
set_option maxRecDepth 100000 in
theorem index_Left.calls (k : Nat) (A0 : Option Addr) (c0 : Nat) (l0 : List (S53)) (a1 : Int) (r1 : Int) (r2 : Int) (r3 : Int) (w : World) (hr0 : Kd.C k53 w A0 l0.length l0) (hc0 : l0.length ≤ c0) (h : index_Left.f k l0 a1 = some (r1, r2, r3)) :
  Calls Tryz.prog 81 #[.slice A0 l0.length c0, .int .i64 a1] w fun e w' => e = .returned (.tuple #[.agg #[.int .i64 r1, .int .i64 r2], .int .i64 r3]) ∧ Below w.heap.size w w' := by
 have hu25 := Tryz.underlying25
 have HR0 := Aside0.mk hr0
 have HC0 := Aside0.mk hc0
 clear hr0 hc0
 have HB := Aside0.mk (Below.refl w.heap.size w)
 have H : ((index_visible.f l0).bind fun bt167 => (if a1 < 0 then ((index_when.f true 3).bind fun t171 => ((index_first.f k (([bt167.2, t171] : List Int))).bind fun t175 => (index_Left.j0 k a1 bt167.1 t175))) else ((index_when.f (decide (a1 > (bt167.1.length : Int))) 3).bind fun t176 => ((index_first.f k (([bt167.2, t176] : List Int))).bind fun t180 => (index_Left.j0 k a1 bt167.1 t180))))) = some (r1, r2, r3) := h
 clear h
 replace H := Option.bind_eq_some_iff.mp H
 obtain ⟨⟨t167, t168⟩, A30, H⟩ := H
 replace H : (if a1 < 0 then ((index_when.f true 3).bind fun t171 => ((index_first.f k (([t168, t171] : List Int))).bind fun t175 => (index_Left.j0 k a1 t167 t175))) else ((index_when.f (decide (a1 > (t167.length : Int))) 3).bind fun t176 => ((index_first.f k (([t168, t176] : List Int))).bind fun t180 => (index_Left.j0 k a1 t167 t180)))) = some (r1, r2, r3) := H
 have A3 := Aside0.mk A30
 clear A30
 have HC4 := Aside0.mk H
 clear H
 go_enter Tryz.func81, Tryz.ntmps81
 go_upto_region 2 with (first | ((with_reducible refine gate_dst (N := 4) rfl ?_); (try (refine gate_guard (by rfl) ?_; dsimp only)); refine box_event ?hg (N := 4) ?hd (cs := #[.int .i64 0, .int .i64 0]) (t := 25) ?hr ?_; (case hd => rfl); (case hg => rfl); (case hr => first | (go_simp; done) | (go_simp; rfl)); intro gb166 hg w5 hbox hb; have n0_ := Aside0.mk (below_step (by repeat (first | (with_reducible first | exact HB.out | apply below_alloc | apply pw_below_drewN | apply below_drew1) | exact HB.out)) hb); have n1_ := Aside0.mk (hbox); have n2_ := Aside0.mk ((by rw [hg]; exact (below_size (by repeat (first | (with_reducible first | exact HB.out | apply below_alloc | apply pw_below_drewN | apply below_drew1) | exact HB.out))) : w.heap.size ≤ gb166)); have n3_ := Aside0.mk ((by rw [hg]; exact (below_size (by repeat (first | (with_reducible first | exact HB.out | apply below_alloc | apply pw_below_drewN | apply below_drew1) | exact HB.out))) : w.heap.size ≤ gb166)); clear HB; have HB := n0_; have BK166 := n1_; have GW166 := n2_; have GE166 := n3_; clear n0_ n1_ n2_ n3_; clear hb hbox hg) | ((with_reducible refine gate_callee (f := 64) rfl ?_); refine goesL_ (some 10) rfl rfl Tryz.func64 (by kernel_rfl) rfl #[.slice A0 l0.length c0] rfl (by (try simp only [List.map_toArray, List.map_cons, List.map_nil]); first | done | rfl | (simp only [List.length_drop, List.length_take]; rfl)) ?_; (with_reducible refine (index_visible.calls _ _ l0 t167 t168 _ ?side1 ?side2 A3.out).mono ?_); (case side1 => repeat (first | exact (Kd.C_below HR0.out HB.out) | (with_reducible refine Kd.C_alloc ?_ _) | (with_reducible refine Kd.C_drewN ?_ _) | (with_reducible refine Kd.C_drew ?_))); (case side2 => exact HC0.out); rintro e w6 ⟨v169, rfl, ho0, hb⟩; refine ⟨_, rfl, ?_⟩; have n0_ := Aside0.mk (Kd.R_lower ho0 (below_size (by repeat (first | (with_reducible first | exact HB.out | apply below_alloc | apply pw_below_drewN | apply below_drew1 | refine below_set ?_ GE166.out) | exact HB.out)))); have n1_ := Aside0.mk (blk_below (g := gb166) (o := .cells #[.int .i64 0, .int .i64 0] 25 (0, 0)) (by (with_reducible repeat (first | refine blk_drewN ?_ _ | refine blk_drew ?_ | refine blk_alloc ?_ _)); exact BK166.out) hb); have n2_ := Aside0.mk (below_step (by repeat (first | (with_reducible first | exact HB.out | apply below_alloc | apply pw_below_drewN | apply below_drew1 | refine below_set ?_ GE166.out) | exact HB.out)) hb); clear BK166; clear HB; have HO170 := n0_; have BK166 := n1_; have HB := n2_; clear n0_ n1_ n2_; (try clear hb); (try clear hb2); (try clear hk); (try clear hi); (try clear ho0)))
 (try simp only [Act.put, List.setIfInBounds_toArray, List.set_cons_zero, List.set_cons_succ])
 go_cut [7] (fun v7 wc => ∃ (kq : Nat) (x7_3 : Int), v7 = .int .i64 x7_3 ∧ Aside0 (index_Left.j0 kq a1 t167 x7_3 = some (r1, r2, r3)) ∧ Aside0 (kq ≤ k) ∧ Aside0 (Kd.R k53 53 wc w.heap.size (fun _ => True) v169 t167) ∧ Aside0 (wc.heap[gb166]? = some (.cells #[.int .i64 0, .int .i64 0] 25 (0, 0))) ∧ Aside0 (Below w.heap.size w wc))
 case first =>
  have H := HC4.out
  clear HC4
  by_cases c7 : a1 < 0
  ·
   rw [if_pos c7] at H
   have c7b0 : decide (a1 < 0) = true := decide_eq_true c7
   clear c7
   (first | rw [c7b0] | (simp only [i64_w, i32_w]; rw [c7b0]) | rw [c7b1] | skip)
   replace H := Option.bind_eq_some_iff.mp H
   obtain ⟨t171, A80, H⟩ := H
   replace H : ((index_first.f k (([t168, t171] : List Int))).bind fun t175 => (index_Left.j0 k a1 t167 t175)) = some (r1, r2, r3) := H
   have A8 := Aside0.mk A80
   clear A80
   obtain ⟨y172, hy172⟩ : ∃ y_ : List Int, y_ = (([t168, t171] : List Int)) := ⟨_, rfl⟩
   replace H : ((index_first.f k y172).bind fun t175 => (index_Left.j0 k a1 t167 t175)) = some (r1, r2, r3) := by first | (rw [hy172]; with_reducible exact H) | (have H2_ := (Option.bind_some _ _).symm.trans H; rw [hy172]; with_reducible exact H2_) | (have H2_ := (Option.bind_some _ _).symm.trans H; with_reducible exact H2_) | with_reducible exact H | (rw [hy172]; exact H) | exact H
   have Ny172 := Aside0.mk hy172
   clear hy172
   replace H := Option.bind_eq_some_iff.mp H
   obtain ⟨t175, A90, H⟩ := H
   replace H : (index_Left.j0 k a1 t167 t175) = some (r1, r2, r3) := H
   have A9 := Aside0.mk A90
   clear A90
   have H' := Aside0.mk H
   clear H
   go_wp2_with (first | ((with_reducible refine gate_callee (f := 66) rfl ?_); refine goesL_ (some 22) rfl rfl Tryz.func66 (by kernel_rfl) rfl #[.bool true, .int .i64 3] rfl (by (try simp only [List.map_toArray, List.map_cons, List.map_nil]); first | done | rfl | (simp only [List.length_drop, List.length_take]; rfl)) ?_; (with_reducible refine (index_when.calls true 3 t171 _ A8.out).mono ?_); rintro e w' ⟨rfl, ⟨nd, rfl⟩⟩; refine ⟨_, rfl, ?_⟩) | ((with_reducible refine gate_dst (N := 23) rfl ?_); (try (refine gate_guard (by rfl) ?_; dsimp only)); refine Kd.R_lit (Kd.int .i64) _ 29 ?hg (N := 23) ?hd (xs := ([t168, t171] : List Int)) (inner := [.int .i64 t168, .int .i64 t171]) (ok := fun _ => True) (okp := fun _ => True) ?hr ?hp (fun _ hk => hk) trivial (Below.refl _ _) (Nat.le_refl _) (by simp) ?_; (case hd => rfl); (case hg => rfl); (case hr => first | (go_simp; done) | (go_simp; rfl)); (case hp => exact (Reps.one (show Kd.M (Kd.int .i64) _ _ _ t168 [.int .i64 t168] from rfl) (Reps.one (show Kd.M (Kd.int .i64) _ _ _ t171 [.int .i64 t171] from rfl) (Reps.none _ _)))); intro v173 w10 ho11 hb hg_ hnew_; clear hg_ hnew_; (first | rw [← Ny172.out] at ho11 | (simp only [Int.reduceToNat] at ho11; rw [← Ny172.out] at ho11)); have n0_ := Aside0.mk (Kd.R_below (by (with_reducible repeat (first | apply Kd.R_alloc | apply Kd.R_drewN | apply Kd.R_drew)); exact HO170.out) hb); have n1_ := Aside0.mk (Kd.R_lower ho11 (below_size (by repeat (first | (with_reducible first | exact HB.out | apply below_alloc | apply pw_below_drewN | apply below_drew1 | refine below_set ?_ GE166.out) | exact HB.out)))); have n2_ := Aside0.mk (blk_below (g := gb166) (o := .cells #[.int .i64 0, .int .i64 0] 25 (0, 0)) (by (with_reducible repeat (first | refine blk_drewN ?_ _ | refine blk_drew ?_ | refine blk_alloc ?_ _)); exact BK166.out) hb); have n3_ := Aside0.mk (below_step (by repeat (first | (with_reducible first | exact HB.out | apply below_alloc | apply pw_below_drewN | apply below_drew1 | refine below_set ?_ GE166.out) | exact HB.out)) hb); clear HO170; clear BK166; clear HB; have HO170 := n0_; have HO174 := n1_; have BK166 := n2_; have HB := n3_; clear n0_ n1_ n2_ n3_; clear hb ho11; obtain ⟨Ao12, co12, eo12⟩ := Kd.R_slice HO174.out; subst eo12) | ((with_reducible refine gate_callee (f := 65) rfl ?_); refine goesL_ (some 24) rfl rfl Tryz.func65 (by kernel_rfl) rfl #[.slice Ao12 y172.length co12] rfl (by (try simp only [List.map_toArray, List.map_cons, List.map_nil]); first | done | rfl | (simp only [List.length_drop, List.length_take]; rfl)) ?_; (with_reducible refine (index_first.calls k _ _ y172 t175 _ ?side1 ?side2 A9.out).mono ?_); (case side1 => repeat (first | exact (Kd.R_reads' HO174.out).2.2 | (with_reducible refine Kd.C_alloc ?_ _) | (with_reducible refine Kd.C_drewN ?_ _) | (with_reducible refine Kd.C_drew ?_))); (case side2 => exact (Kd.R_reads' HO174.out).2.1); rintro e w' ⟨rfl, ⟨nd, rfl⟩⟩; refine ⟨_, rfl, ?_⟩))
   go_meet
   case rel => exact ⟨_, (t175), (by first | rfl | (simp; done) | (simp [*]; done)), H', ⟨by first | omega | exact Nat.le_refl _⟩, ⟨by (with_reducible repeat (first | apply Kd.R_alloc | apply Kd.R_drewN | apply Kd.R_drew)); exact HO170.out⟩, ⟨by (with_reducible repeat (first | refine blk_drewN ?_ _ | refine blk_drew ?_ | refine blk_alloc ?_ _)); exact BK166.out⟩, ⟨by repeat (first | (with_reducible first | exact HB.out | apply below_alloc | apply pw_below_drewN | apply below_drew1 | refine below_set ?_ GE166.out) | exact HB.out)⟩⟩
  ·
   rw [if_neg c7] at H
   have c7b0 : decide (a1 < 0) = false := decide_eq_false c7
   clear c7
   (first | rw [c7b0] | (simp only [i64_w, i32_w]; rw [c7b0]) | rw [c7b1] | skip)
   replace H := Option.bind_eq_some_iff.mp H
   obtain ⟨t176, A130, H⟩ := H
   replace H : ((index_first.f k (([t168, t176] : List Int))).bind fun t180 => (index_Left.j0 k a1 t167 t180)) = some (r1, r2, r3) := H
   have A13 := Aside0.mk A130
   clear A130
   obtain ⟨y177, hy177⟩ : ∃ y_ : List Int, y_ = (([t168, t176] : List Int)) := ⟨_, rfl⟩
   replace H : ((index_first.f k y177).bind fun t180 => (index_Left.j0 k a1 t167 t180)) = some (r1, r2, r3) := by first | (rw [hy177]; with_reducible exact H) | (have H2_ := (Option.bind_some _ _).symm.trans H; rw [hy177]; with_reducible exact H2_) | (have H2_ := (Option.bind_some _ _).symm.trans H; with_reducible exact H2_) | with_reducible exact H | (rw [hy177]; exact H) | exact H
   have Ny177 := Aside0.mk hy177
   clear hy177
   replace H := Option.bind_eq_some_iff.mp H
   obtain ⟨t180, A140, H⟩ := H
   replace H : (index_Left.j0 k a1 t167 t180) = some (r1, r2, r3) := H
   have A14 := Aside0.mk A140
   clear A140
   have H' := Aside0.mk H
   clear H
   obtain ⟨Ao15, co15, eo15⟩ := Kd.R_slice HO170.out
   subst eo15
   go_wp2_with (first | ((with_reducible refine gate_callee (f := 66) rfl ?_); refine goesL_ (some 22) rfl rfl Tryz.func66 (by kernel_rfl) rfl #[.bool (decide (a1 > (t167.length : Int))), .int .i64 3] rfl (by (try simp only [List.map_toArray, List.map_cons, List.map_nil]); first | done | rfl | (simp only [List.length_drop, List.length_take]; rfl)) ?_; (with_reducible refine (index_when.calls (decide (a1 > (t167.length : Int))) 3 t176 _ A13.out).mono ?_); rintro e w' ⟨rfl, ⟨nd, rfl⟩⟩; refine ⟨_, rfl, ?_⟩) | ((with_reducible refine gate_dst (N := 23) rfl ?_); (try (refine gate_guard (by rfl) ?_; dsimp only)); refine Kd.R_lit (Kd.int .i64) _ 29 ?hg (N := 23) ?hd (xs := ([t168, t176] : List Int)) (inner := [.int .i64 t168, .int .i64 t176]) (ok := fun _ => True) (okp := fun _ => True) ?hr ?hp (fun _ hk => hk) trivial (Below.refl _ _) (Nat.le_refl _) (by simp) ?_; (case hd => rfl); (case hg => rfl); (case hr => first | (go_simp; done) | (go_simp; rfl)); (case hp => exact (Reps.one (show Kd.M (Kd.int .i64) _ _ _ t168 [.int .i64 t168] from rfl) (Reps.one (show Kd.M (Kd.int .i64) _ _ _ t176 [.int .i64 t176] from rfl) (Reps.none _ _)))); intro v178 w16 ho17 hb hg_ hnew_; clear hg_ hnew_; (first | rw [← Ny177.out] at ho17 | (simp only [Int.reduceToNat] at ho17; rw [← Ny177.out] at ho17)); have n0_ := Aside0.mk (Kd.R_below (by (with_reducible repeat (first | apply Kd.R_alloc | apply Kd.R_drewN | apply Kd.R_drew)); exact HO170.out) hb); have n1_ := Aside0.mk (Kd.R_lower ho17 (below_size (by repeat (first | (with_reducible first | exact HB.out | apply below_alloc | apply pw_below_drewN | apply below_drew1 | refine below_set ?_ GE166.out) | exact HB.out)))); have n2_ := Aside0.mk (blk_below (g := gb166) (o := .cells #[.int .i64 0, .int .i64 0] 25 (0, 0)) (by (with_reducible repeat (first | refine blk_drewN ?_ _ | refine blk_drew ?_ | refine blk_alloc ?_ _)); exact BK166.out) hb); have n3_ := Aside0.mk (below_step (by repeat (first | (with_reducible first | exact HB.out | apply below_alloc | apply pw_below_drewN | apply below_drew1 | refine below_set ?_ GE166.out) | exact HB.out)) hb); clear HO170; clear BK166; clear HB; have HO170 := n0_; have HO179 := n1_; have BK166 := n2_; have HB := n3_; clear n0_ n1_ n2_ n3_; clear hb ho17; obtain ⟨Ao18, co18, eo18⟩ := Kd.R_slice HO179.out; subst eo18) | ((with_reducible refine gate_callee (f := 65) rfl ?_); refine goesL_ (some 24) rfl rfl Tryz.func65 (by kernel_rfl) rfl #[.slice Ao18 y177.length co18] rfl (by (try simp only [List.map_toArray, List.map_cons, List.map_nil]); first | done | rfl | (simp only [List.length_drop, List.length_take]; rfl)) ?_; (with_reducible refine (index_first.calls k _ _ y177 t180 _ ?side1 ?side2 A14.out).mono ?_); (case side1 => repeat (first | exact (Kd.R_reads' HO179.out).2.2 | (with_reducible refine Kd.C_alloc ?_ _) | (with_reducible refine Kd.C_drewN ?_ _) | (with_reducible refine Kd.C_drew ?_))); (case side2 => exact (Kd.R_reads' HO179.out).2.1); rintro e w' ⟨rfl, ⟨nd, rfl⟩⟩; refine ⟨_, rfl, ?_⟩))
   go_meet
   case rel => exact ⟨_, (t180), (by first | rfl | (simp; done) | (simp [*]; done)), H', ⟨by first | omega | exact Nat.le_refl _⟩, ⟨by (with_reducible repeat (first | apply Kd.R_alloc | apply Kd.R_drewN | apply Kd.R_drew)); exact HO170.out⟩, ⟨by (with_reducible repeat (first | refine blk_drewN ?_ _ | refine blk_drew ?_ | refine blk_alloc ?_ _)); exact BK166.out⟩, ⟨by repeat (first | (with_reducible first | exact HB.out | apply below_alloc | apply pw_below_drewN | apply below_drew1 | refine below_set ?_ GE166.out) | exact HB.out)⟩⟩
 case rest =>
  clear HC4
  try clear p2
  try clear c6
  try clear c7
  try clear c7b0
  try clear c8
  obtain ⟨kq, x7_3, rfl, HA, HJ3, HO_6, BK166, HB⟩ := hcut
  cases kq with
  | zero => exact absurd HA.out (by simp [index_Left.j0])
  | succ kj3 =>
   have H := HA.out
   clear HA
   simp only [index_Left.j0] at H
   by_cases c19 : x7_3 = 0
   ·
    rw [if_pos c19] at H
    have c19b0 : (x7_3 == 0) = true := beq_iff_eq.mpr c19
    have c19b1 : (x7_3 != 0) = false := bne_eq_false_iff_eq.mpr c19
    clear c19
    by_cases c20 : a1 = 0
    ·
     rw [if_pos c20] at H
     have c20b0 : (a1 == 0) = true := beq_iff_eq.mpr c20
     have c20b1 : (a1 != 0) = false := bne_eq_false_iff_eq.mpr c20
     clear c20
     simp only [Option.some.injEq, Prod.mk.injEq] at H
     obtain ⟨rfl, rfl, rfl⟩ := H
     have hcz21_0 : wc.cell? ⟨gb166, 0, none⟩ = some (.int .i64 0) := (blk_cell BK166.out 0).trans rfl
     have hcz21_1 : wc.cell? ⟨gb166, 1, none⟩ = some (.int .i64 0) := (blk_cell BK166.out 1).trans rfl
     have hfz21_0 := blk_frozen BK166.out 0
     have hfz21_1 := blk_frozen BK166.out 1
     go_wp2
     refine bodyPost_ret (results_ct rfl _ _ gb166 25 #[.int .i64 0, .int .i64 0] (0, 0) _ rfl (by (with_reducible repeat (first | refine blk_drewN ?_ _ | refine blk_drew ?_ | refine blk_alloc ?_ _)); refine blk_put (cs := #[.int .i64 0, .int .i64 0]) ?_ 1 _ rfl; (with_reducible repeat (first | refine blk_drewN ?_ _ | refine blk_drew ?_ | refine blk_alloc ?_ _)); refine blk_put (cs := #[.int .i64 0, .int .i64 0]) ?_ 0 _ rfl; (with_reducible repeat (first | refine blk_drewN ?_ _ | refine blk_drew ?_ | refine blk_alloc ?_ _)); exact BK166.out) Tryz.underlying25 rfl (by kernel_rfl)) rfl ?_
     exact ⟨by first | rfl | (simp [errW_none, errW_some] <;> rfl) | (simp [*, errW_none, errW_some] <;> rfl), by repeat (first | (with_reducible first | exact HB.out | apply below_alloc | apply pw_below_drewN | apply below_drew1 | refine below_set ?_ GE166.out) | exact HB.out)⟩
    ·
     rw [if_neg c20] at H
     have c20b0 : (a1 == 0) = false := beq_eq_false_iff_ne.mpr c20
     have c20b1 : (a1 != 0) = true := bne_iff_ne.mpr c20
     obtain ⟨ji22, hji22⟩ : ∃ j_ : Int, (wrap64 (a1 - 1)) = j_ := ⟨_, rfl⟩
     replace H : (if 0 ≤ (ji22) then (if (ji22) < (t167.length : Int) then (some ((rd_T53 t167 (ji22)).f0.f0, (rd_T53 t167 (ji22)).f0.f1, 0)) else (none)) else (none)) = some (r1, r2, r3) := by first | (rw [hji22] at H; exact H) | (simp only [hji22] at H ⊢; exact H)
     have hji22w : (IntKind.i64.wrap (a1 - 1)) = ji22 := (i64_w _).trans hji22
     by_cases c23 : 0 ≤ (ji22)
     ·
      rw [if_pos c23] at H
      have c23b0 : decide (0 ≤ (ji22)) = true := decide_eq_true c23
      clear c23
      by_cases c24 : (ji22) < (t167.length : Int)
      ·
       rw [if_pos c24] at H
       have c24b0 : decide ((ji22) < (t167.length : Int)) = true := decide_eq_true c24
       clear c24
       simp only [Option.some.injEq, Prod.mk.injEq] at H
       obtain ⟨rfl, rfl, rfl⟩ := H
       obtain ⟨Ao25, co25, eo25⟩ := Kd.R_slice HO_6.out
       subst eo25
       have p181 : 0 ≤ ((ji22) : Int) := of_decide_eq_true (by first | (with_reducible assumption) | assumption)
       have q181 : (ji22) < (t167.length : Int) := of_decide_eq_true (by first | (with_reducible assumption) | assumption)
       obtain ⟨ad181, e181, hx181_0, hx181_1, hx181_2, hx181_3, hx181_4, hx181_5⟩ := at_T53 (Kd.R_reads' HO_6.out).2.2 (ji22) p181 q181
       cases e181
       replace p181 := eq_true p181
       replace q181 := eq_true q181
       have hcz26_0 : wc.cell? ⟨gb166, 0, none⟩ = some (.int .i64 0) := (blk_cell BK166.out 0).trans rfl
       have hcz26_1 : wc.cell? ⟨gb166, 1, none⟩ = some (.int .i64 0) := (blk_cell BK166.out 1).trans rfl
       have hfz26_0 := blk_frozen BK166.out 0
       have hfz26_1 := blk_frozen BK166.out 1
       go_wp2
       refine bodyPost_ret (results_ct rfl _ _ gb166 25 #[.int .i64 ((rd_T53 t167 (ji22)).f0.f0), .int .i64 ((rd_T53 t167 (ji22)).f0.f1)] (0, 0) _ rfl (by (with_reducible repeat (first | refine blk_drewN ?_ _ | refine blk_drew ?_ | refine blk_alloc ?_ _)); refine blk_put (cs := #[.int .i64 ((rd_T53 t167 (ji22)).f0.f0), .int .i64 0]) ?_ 1 _ rfl; (with_reducible repeat (first | refine blk_drewN ?_ _ | refine blk_drew ?_ | refine blk_alloc ?_ _)); refine blk_put (cs := #[.int .i64 0, .int .i64 0]) ?_ 0 _ rfl; (with_reducible repeat (first | refine blk_drewN ?_ _ | refine blk_drew ?_ | refine blk_alloc ?_ _)); exact BK166.out) Tryz.underlying25 rfl (by kernel_rfl)) rfl ?_
       exact ⟨by first | rfl | (simp [errW_none, errW_some] <;> rfl) | (simp only [← hji22]; first | rfl | (simp [errW_none, errW_some] <;> rfl)) | (simp [*, errW_none, errW_some] <;> rfl), by repeat (first | (with_reducible first | exact HB.out | apply below_alloc | apply pw_below_drewN | apply below_drew1 | refine below_set ?_ GE166.out) | exact HB.out)⟩
      ·
       rw [if_neg c24] at H
       exact absurd H (by simp)
     ·
      rw [if_neg c23] at H
      exact absurd H (by simp)
   ·
    rw [if_neg c19] at H
    have c19b0 : (x7_3 == 0) = false := beq_eq_false_iff_ne.mpr c19
    have c19b1 : (x7_3 != 0) = true := bne_iff_ne.mpr c19
    simp only [Option.some.injEq, Prod.mk.injEq] at H
    obtain ⟨rfl, rfl, rfl⟩ := H
    have hcz27_0 : wc.cell? ⟨gb166, 0, none⟩ = some (.int .i64 0) := (blk_cell BK166.out 0).trans rfl
    have hcz27_1 : wc.cell? ⟨gb166, 1, none⟩ = some (.int .i64 0) := (blk_cell BK166.out 1).trans rfl
    have hfz27_0 := blk_frozen BK166.out 0
    have hfz27_1 := blk_frozen BK166.out 1
    go_wp2
    refine bodyPost_ret (results_ct rfl _ _ gb166 25 #[.int .i64 0, .int .i64 0] (0, 0) _ rfl (by (with_reducible repeat (first | refine blk_drewN ?_ _ | refine blk_drew ?_ | refine blk_alloc ?_ _)); refine blk_put (cs := #[.int .i64 0, .int .i64 0]) ?_ 1 _ rfl; (with_reducible repeat (first | refine blk_drewN ?_ _ | refine blk_drew ?_ | refine blk_alloc ?_ _)); refine blk_put (cs := #[.int .i64 0, .int .i64 0]) ?_ 0 _ rfl; (with_reducible repeat (first | refine blk_drewN ?_ _ | refine blk_drew ?_ | refine blk_alloc ?_ _)); exact BK166.out) Tryz.underlying25 rfl (by kernel_rfl)) rfl ?_
    exact ⟨by first | rfl | (simp [errW_none, errW_some] <;> rfl) | (simp [*, errW_none, errW_some] <;> rfl), by repeat (first | (with_reducible first | exact HB.out | apply below_alloc | apply pw_below_drewN | apply below_drew1 | refine below_set ?_ GE166.out) | exact HB.out)⟩
def join_Valid.f (l0 : List (S53)) : Option (Bool) := (store_Valid.f l0).bind fun t190 => (some t190)
set_option maxHeartbeats 8000000 in
set_option maxRecDepth 100000 in
theorem join_Valid.calls (A0 : Option Addr) (c0 : Nat) (l0 : List (S53)) (r : Bool) (w : World) (hr0 : Kd.C k53 w A0 l0.length l0) (hc0 : l0.length ≤ c0) (h : join_Valid.f l0 = some r) :
  Calls Tryz.prog 84 #[.slice A0 l0.length c0] w fun e w' => e = .returned (.bool r) ∧ Below w.heap.size w w' := by
 have HR0 := Aside0.mk hr0
 have HC0 := Aside0.mk hc0
 clear hr0 hc0
 have HB := Aside0.mk (Below.refl w.heap.size w)
 have H : ((store_Valid.f l0).bind fun t190 => (some t190)) = some r := h
 clear h
 replace H := Option.bind_eq_some_iff.mp H
 obtain ⟨t190, A20, H⟩ := H
 replace H : (some t190) = some r := H
 have A2 := Aside0.mk A20
 clear A20
 obtain rfl := Option.some.inj H
 go_enter Tryz.func84, Tryz.ntmps84
 go_wp2_with (first | ((with_reducible refine gate_callee (f := 67) rfl ?_); refine goesL_ (some 4) rfl rfl Tryz.func67 (by kernel_rfl) rfl #[.slice A0 l0.length c0] rfl (by (try simp only [List.map_toArray, List.map_cons, List.map_nil]); first | done | rfl | (simp only [List.length_drop, List.length_take]; rfl)) ?_; (with_reducible refine (store_Valid.calls _ _ l0 t190 _ ?side1 ?side2 A2.out).mono ?_); (case side1 => repeat (first | exact HR0.out | (with_reducible refine Kd.C_alloc ?_ _) | (with_reducible refine Kd.C_drewN ?_ _) | (with_reducible refine Kd.C_drew ?_))); (case side2 => exact HC0.out); rintro e w3 ⟨rfl, hb⟩; refine ⟨_, rfl, ?_⟩; have n0_ := Aside0.mk (below_step (by repeat (first | (with_reducible first | exact HB.out | apply below_alloc | apply pw_below_drewN | apply below_drew1) | exact HB.out)) hb); clear HB; have HB := n0_; clear n0_; (try clear hb); (try clear hb2); (try clear hk); (try clear hi)))
 go_ret
 exact ⟨by first | rfl | (simp [errW_none, errW_some] <;> rfl) | (simp [*, errW_none, errW_some] <;> rfl), by repeat (first | (with_reducible first | exact HB.out | apply below_alloc | apply pw_below_drewN | apply below_drew1) | exact HB.out)⟩
end Go.Proofs.YtmbndijbpgobeaaGreat.PWalk
end
