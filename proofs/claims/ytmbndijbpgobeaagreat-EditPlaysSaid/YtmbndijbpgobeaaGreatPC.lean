/-
  The law EditPlays of layer 15 holds for all lists of edits. Part 3 of 12.
-/
import Derived.Test.YtmbndijbpgobeaaGreatPB
import Derived.Orders
import Derived.WalkKit
import Derived.Outline
import Derived.StillTailTactics
import Derived.Maps.OwnOps
import Derived.IntWalk
import Derived.RangeFuncNested
import Derived.RangeFuncBound
import Derived.RangeFuncCalls
import Derived.RangeFuncLeaves
import Derived.Shelf.Abstract
import Derived.Shelf.RegionOpen
import Derived.OwnWalkIn
import Derived.TacticsInMore
import Derived.LoopNIn
import Derived.LoopIn
import Derived.RangeFuncBox
import Derived.Maps.AppendAt
import Derived.Lib.BufferMore
import Derived.Laws.CopyRow
import Derived.LoopTactic
import Derived.Sort.Grow
section
namespace Go.Proofs.YtmbndijbpgobeaaGreat.PWalk
open Go.RowKit Go.Proofs.YtmbndijbpgobeaaGreatW.PrintWords Go.Proofs.YtmbndijbpgobeaaGreatW.PrintLast Go.Proofs.YtmbndijbpgobeaaGreatW.PrintMore
attribute [local go_sem] max2_int max_two
set_option linter.unusedVariables false
set_option linter.unusedSimpArgs false
section
def store_invalid.f (k : Nat) (a0_0 : Int) (a0_1 : Int) (a0_2 : Int) (a0_3 : Int) (a0_4 : Int) (a0_5 : Int) : Option (Bool) := (node_Valid.f k a0_0 a0_1 a0_2 a0_3 a0_4 a0_5).bind fun t121 => (some (!t121))
set_option maxHeartbeats 8000000 in
set_option maxRecDepth 100000 in
theorem store_invalid.calls (k : Nat) (a0_0 : Int) (a0_1 : Int) (a0_2 : Int) (a0_3 : Int) (a0_4 : Int) (a0_5 : Int) (r : Bool) (w : World) (h : store_invalid.f k a0_0 a0_1 a0_2 a0_3 a0_4 a0_5 = some r) :
  Calls Tryz.prog 91 #[.agg #[.int .i64 a0_0, .int .i64 a0_1, .int .i64 a0_2, .int .i64 a0_3, .int .i64 a0_4, .int .i32 a0_5]] w fun e w' => e = .returned (.bool r) ∧ Below w.heap.size w w' := by
 have hu53 := Tryz.underlying53
 have HB := za0.mk (Below.refl w.heap.size w)
 have H : ((node_Valid.f k a0_0 a0_1 a0_2 a0_3 a0_4 a0_5).bind fun t121 => (some (!t121))) = some r := h
 clear h
 replace H := Option.bind_eq_some_iff.mp H
 obtain ⟨t121, A20, H⟩ := H
 replace H : (some (!t121)) = some r := H
 have A2 := za0.mk A20
 clear A20
 obtain rfl := Option.some.inj H
 go_enter Tryz.func91, Tryz.ntmps91
 go_wp2_with (first | ((with_reducible refine zaq (N := 1) rfl ?_); refine zao ?hg (N := 1) ?hd (cs := #[.int .i64 a0_0, .int .i64 a0_1, .int .i64 a0_2, .int .i64 a0_3, .int .i64 a0_4, .int .i32 a0_5]) (t := 53) ?hr ?_; (case hd => rfl); (case hg => rfl); (case hr => first | (go_simp; done) | (go_simp; rfl)); intro gb120 hg w3 hbox hb; have n0_ := za0.mk (zaa (by repeat (first | (with_reducible first | exact HB.out | apply za2 | apply za1 | apply za3) | exact HB.out)) hb); have n1_ := za0.mk (hbox); have n2_ := za0.mk ((by rw [hg]; exact (za8 (by repeat (first | (with_reducible first | exact HB.out | apply za2 | apply za1 | apply za3) | exact HB.out))) : w.heap.size ≤ gb120)); have n3_ := za0.mk ((by rw [hg]; exact (za8 (by repeat (first | (with_reducible first | exact HB.out | apply za2 | apply za1 | apply za3) | exact HB.out))) : w.heap.size ≤ gb120)); clear HB; have HB := n0_; have BK120 := n1_; have GW120 := n2_; have GE120 := n3_; clear n0_ n1_ n2_ n3_; clear hb hbox hg; have hcz4_0 : w3.cell? ⟨gb120, 0, none⟩ = some (.int .i64 a0_0) := (za4 BK120.out 0).trans rfl; have hcz4_1 : w3.cell? ⟨gb120, 1, none⟩ = some (.int .i64 a0_1) := (za4 BK120.out 1).trans rfl; have hcz4_2 : w3.cell? ⟨gb120, 2, none⟩ = some (.int .i64 a0_2) := (za4 BK120.out 2).trans rfl; have hcz4_3 : w3.cell? ⟨gb120, 3, none⟩ = some (.int .i64 a0_3) := (za4 BK120.out 3).trans rfl; have hcz4_4 : w3.cell? ⟨gb120, 4, none⟩ = some (.int .i64 a0_4) := (za4 BK120.out 4).trans rfl; have hcz4_5 : w3.cell? ⟨gb120, 5, none⟩ = some (.int .i32 a0_5) := (za4 BK120.out 5).trans rfl; have hfz4_0 := za6 BK120.out 0; have hfz4_1 := za6 BK120.out 1; have hfz4_2 := za6 BK120.out 2; have hfz4_3 := za6 BK120.out 3; have hfz4_4 := za6 BK120.out 4; have hfz4_5 := za6 BK120.out 5) | ((with_reducible refine zah (f := 102) rfl ?_); refine zar (some 4) rfl rfl Tryz.func102 (by kernel_rfl) rfl #[.agg #[.int .i64 a0_0, .int .i64 a0_1, .int .i64 a0_2, .int .i64 a0_3, .int .i64 a0_4, .int .i32 a0_5]] rfl (by (try simp only [List.map_toArray, List.map_cons, List.map_nil]); first | done | rfl | (simp only [List.length_drop, List.length_take]; rfl)) ?_; (with_reducible refine (node_Valid.calls k a0_0 a0_1 a0_2 a0_3 a0_4 a0_5 t121 _ A2.out).mono ?_); rintro e w5 ⟨rfl, hb⟩; refine ⟨_, rfl, ?_⟩; have n0_ := za0.mk (blk_below (g := gb120) (o := .cells #[.int .i64 a0_0, .int .i64 a0_1, .int .i64 a0_2, .int .i64 a0_3, .int .i64 a0_4, .int .i32 a0_5] 53 (0, 0)) (by (with_reducible repeat (first | refine zaj ?_ _ | refine zai ?_ | refine zad ?_ _)); exact BK120.out) hb); have n1_ := za0.mk (zaa (by repeat (first | (with_reducible first | exact HB.out | apply za2 | apply za1 | apply za3 | refine zae ?_ GE120.out) | exact HB.out)) hb); clear BK120; clear HB; have BK120 := n0_; have HB := n1_; clear n0_ n1_; (try clear hb); (try clear hb2); (try clear hk); (try clear hi)))
 go_ret
 exact ⟨by first | rfl | (simp [zac, zab] <;> rfl) | (simp [*, zac, zab] <;> rfl), by repeat (first | (with_reducible first | exact HB.out | apply za2 | apply za1 | apply za3 | refine zae ?_ GE120.out) | exact HB.out)⟩
def dot_IsSet.l0 : Nat → List (S25) → Int → Option (Bool)
 | 0, _, _ => none
 | k + 1, x0, x3 => if x3 < (x0.length : Int) then (if 0 ≤ (wrap64 (x3 - 1)) then (if (wrap64 (x3 - 1)) < (x0.length : Int) then (if 0 ≤ x3 then ((dot_Compare.f k ((rd_T25 x0 (wrap64 (x3 - 1))).f0) ((rd_T25 x0 (wrap64 (x3 - 1))).f1) ((rd_T25 x0 x3).f0) ((rd_T25 x0 x3).f1)).bind fun t124 => (if t124 ≥ 0 then (some false) else (dot_IsSet.l0 k x0 (wrap64 (x3 + 1))))) else (none)) else (none)) else (none)) else (some true)
def dot_IsSet.f (k : Nat) (l0 : List (S25)) : Option (Bool) := dot_IsSet.l0 k l0 1
def dot_IsSet.T4 : Bool × List (List Nat × List Nat) := (true, [([], []), ([], []), ([1], [1]), ([0, 2], [0, 2]), ([3], [3]), ([], []), ([], []), ([5, 6], [5, 6]), ([7], [7]), ([4, 8], [4, 8]), ([9], [9])])
def dot_IsSet.B4 : List Nat := [0, 0, 2, 7, 15, 0, 0, 96, 224, 511, 1023]
theorem dot_IsSet.tab4 : rtab .any (opsOf Tryz.f92 4) = dot_IsSet.T4 := by kernel_rfl
theorem dot_IsSet.bits4 : waitsOk dot_IsSet.T4.2 dot_IsSet.B4 = true := by kernel_rfl
set_option maxHeartbeats 8000000 in
set_option maxRecDepth 100000 in
theorem dot_IsSet.calls (k : Nat) (A0 : Option Addr) (c0 : Nat) (l0 : List (S25)) (r : Bool) (w : World) (hr0 : Kd.C k25 w A0 l0.length l0) (hc0 : l0.length ≤ c0) (h : dot_IsSet.f k l0 = some r) :
  Calls Tryz.prog 92 #[.slice A0 l0.length c0] w fun e w' => e = .returned (.bool r) ∧ Below w.heap.size w w' := by
 have hu25 := Tryz.underlying25
 have HR0 := za0.mk hr0
 have HC0 := za0.mk hc0
 clear hr0 hc0
 have HB := za0.mk (Below.refl w.heap.size w)
 have H : (dot_IsSet.l0 k l0 1) = some r := h
 clear h
 have H' := za0.mk H
 clear H
 go_enter Tryz.func92, Tryz.ntmps92
 go_wp2
 go_loopg [3] k (fun kq v3 w' => ∃ (x3_1 : Int), v3 = .int .i64 x3_1 ∧ za0 (dot_IsSet.l0 kq l0 x3_1 = some r) ∧ za0 (kq ≤ k) ∧ za0 (Below w.heap.size w w'))
 case atStart => exact ⟨(1), (by first | rfl | (simp; done) | (simp [*]; done)), H', ⟨Nat.le_refl _⟩, ⟨by repeat (first | (with_reducible first | exact HB.out | apply za2 | apply za1 | apply za3) | exact HB.out)⟩⟩
 case round =>
  clear H'
  obtain ⟨x3_1, rfl, HA, HK1, HB⟩ := hrel
  cases gk with
  | zero => exact absurd HA.out (by simp [dot_IsSet.l0])
  | succ k1 =>
   have H := HA.out
   clear HA
   simp only [dot_IsSet.l0] at H
   by_cases c2 : x3_1 < (l0.length : Int)
   ·
    rw [if_pos c2] at H
    have c2b0 : decide (x3_1 < (l0.length : Int)) = true := decide_eq_true c2
    clear c2
    obtain ⟨ji3, hji3⟩ : ∃ j_ : Int, (wrap64 (x3_1 - 1)) = j_ := ⟨_, rfl⟩
    replace H : (if 0 ≤ (ji3) then (if (ji3) < (l0.length : Int) then (if 0 ≤ x3_1 then ((dot_Compare.f k1 ((rd_T25 l0 (ji3)).f0) ((rd_T25 l0 (ji3)).f1) ((rd_T25 l0 x3_1).f0) ((rd_T25 l0 x3_1).f1)).bind fun t124 => (if t124 ≥ 0 then (some false) else (dot_IsSet.l0 k1 l0 (wrap64 (x3_1 + 1))))) else (none)) else (none)) else (none)) = some r := by first | (rw [hji3] at H; exact H) | (simp only [hji3] at H ⊢; exact H)
    have hji3w : (IntKind.i64.wrap (x3_1 - 1)) = ji3 := (i64_w _).trans hji3
    by_cases c4 : 0 ≤ (ji3)
    ·
     rw [if_pos c4] at H
     have c4b0 : decide (0 ≤ (ji3)) = true := decide_eq_true c4
     clear c4
     by_cases c5 : (ji3) < (l0.length : Int)
     ·
      rw [if_pos c5] at H
      have c5b0 : decide ((ji3) < (l0.length : Int)) = true := decide_eq_true c5
      clear c5
      by_cases c6 : 0 ≤ x3_1
      ·
       rw [if_pos c6] at H
       have c6b0 : decide (0 ≤ x3_1) = true := decide_eq_true c6
       clear c6
       replace H := Option.bind_eq_some_iff.mp H
       obtain ⟨t124, A70, H⟩ := H
       replace H : (if t124 ≥ 0 then (some false) else (dot_IsSet.l0 k1 l0 (wrap64 (x3_1 + 1)))) = some r := H
       have A7 := za0.mk A70
       clear A70
       by_cases c8 : t124 ≥ 0
       ·
        rw [if_pos c8] at H
        have c8b0 : decide (0 ≤ t124) = true := decide_eq_true c8
        clear c8
        obtain rfl := Option.some.inj H
        try go_wp2
        have n0_ := za0.mk (za3 HB.out)
        clear HB
        have HB := n0_
        clear n0_
        have p122 : 0 ≤ ((ji3) : Int) := of_decide_eq_true (by first | (with_reducible assumption) | assumption)
        have q122 : (ji3) < (l0.length : Int) := of_decide_eq_true (by first | (with_reducible assumption) | assumption)
        obtain ⟨ad122, e122, hx122_0, hx122_1⟩ := at_T25 HR0.out (ji3) p122 q122
        have hw122_1 := hx122_1
        have hw122_0 := hx122_0
        cases e122
        replace hx122_0 := (HB.out.cell (World.block_lt_of_cell? w _ hx122_0)).trans hx122_0
        replace hx122_1 := (HB.out.cell (World.block_lt_of_cell? w _ hx122_1)).trans hx122_1
        replace p122 := eq_true p122
        replace q122 := eq_true q122
        have p123 : 0 ≤ (x3_1 : Int) := of_decide_eq_true (by first | (with_reducible assumption) | assumption)
        have q123 : x3_1 < (l0.length : Int) := of_decide_eq_true (by first | (with_reducible assumption) | assumption)
        obtain ⟨ad123, e123, hx123_0, hx123_1⟩ := at_T25 HR0.out x3_1 p123 q123
        have hw123_1 := hx123_1
        have hw123_0 := hx123_0
        obtain rfl : ad122 = ad123 := (by injection e123)
        replace hx123_0 := (HB.out.cell (World.block_lt_of_cell? w _ hx123_0)).trans hx123_0
        replace hx123_1 := (HB.out.cell (World.block_lt_of_cell? w _ hx123_1)).trans hx123_1
        replace p123 := eq_true p123
        replace q123 := eq_true q123
        refine start_ (n := 11) (S := fun w' => w'.cell? (ad122.add (((ji3)).toNat * 2)) = some (.int .i64 ((rd_T25 l0 (ji3)).f0)) ∧ w'.cell? ⟨(ad122.add (((ji3)).toNat * 2)).block, (ad122.add (((ji3)).toNat * 2)).off + 1, none⟩ = some (.int .i64 ((rd_T25 l0 (ji3)).f1)) ∧ w'.cell? (ad122.add ((x3_1).toNat * 2)) = some (.int .i64 ((rd_T25 l0 x3_1).f0)) ∧ w'.cell? ⟨(ad122.add ((x3_1).toNat * 2)).block, (ad122.add ((x3_1).toNat * 2)).off + 1, none⟩ = some (.int .i64 ((rd_T25 l0 x3_1).f1))) (ds := []) #[false, false, false, false, false, false, false, false, false, false, false] (by kernel_rfl) rfl rfl ⟨((HB.out.cell (World.block_lt_of_cell? w _ hw122_0)).trans hw122_0), ((HB.out.cell (World.block_lt_of_cell? w _ hw122_1)).trans hw122_1), ((HB.out.cell (World.block_lt_of_cell? w _ hw123_0)).trans hw123_0), ((HB.out.cell (World.block_lt_of_cell? w _ hw123_1)).trans hw123_1)⟩ (fun hHeld => ?_); refine with_tabW dot_IsSet.tab4 dot_IsSet.bits4 (fun HT_ HW_ => ?_)
        generalize wr.drew = w9 at HB hx122_0 hx122_1 hx123_0 hx123_1 hHeld ⊢
        refine pure_ (i := 0) (N := some 10) (v := ?_) (a' := ?_) #[true, false, false, false, false, false, false, false, false, false, false] rfl rfl (any_of HT_.out (by kernel_rfl)) (fun _ _ _ h => h) (Or.inl ⟨by rfl, ?_⟩) ?_ ?_
        rotate_left
        ·
         intro w'
         go_simp
         with_reducible rfl
        rotate_left
        ·
         simp only [Act.put, List.setIfInBounds_toArray, List.set_cons_zero, List.set_cons_succ, i64_w, i32_w]
         rfl
        refine pure_ (i := 1) (N := some 11) (v := ?_) (a' := ?_) #[true, true, false, false, false, false, false, false, false, false, false] rfl rfl (any_of HT_.out (by kernel_rfl)) (fun _ _ _ h => h) (Or.inl ⟨by rfl, ?_⟩) ?_ ?_
        rotate_left
        ·
         intro w'
         go_simp
         with_reducible rfl
        rotate_left
        ·
         simp only [Act.put, List.setIfInBounds_toArray, List.set_cons_zero, List.set_cons_succ, i64_w, i32_w]
         rfl
        refine pure_ (i := 2) (N := some 12) (v := ?_) (a' := ?_) #[true, true, true, false, false, false, false, false, false, false, false] rfl rfl (any_of HT_.out (by kernel_rfl)) (fun _ _ _ h => h) (Or.inl ⟨by rfl, ?_⟩) ?_ ?_
        rotate_left
        ·
         intro w'
         go_simp
         with_reducible rfl
        rotate_left
        ·
         simp only [Act.put, List.setIfInBounds_toArray, List.set_cons_zero, List.set_cons_succ, i64_w, i32_w]
         rfl
        refine pure_ (i := 3) (N := some 13) (v := ?_) (a' := ?_) #[true, true, true, true, false, false, false, false, false, false, false] rfl rfl (any_of HT_.out (by kernel_rfl)) (fun _ _ _ h => h) (Or.inl ⟨by rfl, ?_⟩) ?_ ?_
        rotate_left
        ·
         intro w'
         go_simp
         with_reducible rfl
        rotate_left
        ·
         simp only [Act.put, List.setIfInBounds_toArray, List.set_cons_zero, List.set_cons_succ, i64_w, i32_w]
         rfl
        refine pure_ (i := 5) (N := some 15) (v := ?_) (a' := ?_) #[true, true, true, true, false, true, false, false, false, false, false] rfl rfl (any_of HT_.out (by kernel_rfl)) (fun _ _ _ h => h) (Or.inl ⟨by rfl, ?_⟩) ?_ ?_
        rotate_left
        ·
         intro w'
         go_simp
         with_reducible rfl
        rotate_left
        ·
         simp only [Act.put, List.setIfInBounds_toArray, List.set_cons_zero, List.set_cons_succ, i64_w, i32_w]
         rfl
        refine pure_ (i := 6) (N := some 16) (v := ?_) (a' := ?_) #[true, true, true, true, false, true, true, false, false, false, false] rfl rfl (any_of HT_.out (by kernel_rfl)) (fun _ _ _ h => h) (Or.inl ⟨by rfl, ?_⟩) ?_ ?_
        rotate_left
        ·
         intro w'
         go_simp
         with_reducible rfl
        rotate_left
        ·
         simp only [Act.put, List.setIfInBounds_toArray, List.set_cons_zero, List.set_cons_succ, i64_w, i32_w]
         rfl
        refine pure_ (i := 7) (N := some 17) (v := ?_) (a' := ?_) #[true, true, true, true, false, true, true, true, false, false, false] rfl rfl (any_of HT_.out (by kernel_rfl)) (fun _ _ _ h => h) (Or.inl ⟨by rfl, ?_⟩) ?_ ?_
        rotate_left
        ·
         intro w'
         go_simp
         with_reducible rfl
        rotate_left
        ·
         simp only [Act.put, List.setIfInBounds_toArray, List.set_cons_zero, List.set_cons_succ, i64_w, i32_w]
         rfl
        refine take_ (i := 4) (N := some 14) (v := ?_) (a' := ?_) #[true, true, true, true, true, true, true, true, false, false, false] rfl rfl (take_ofW HT_.out HW_.out (by kernel_rfl)) (fun _ _ _ h => h) (Or.inl ⟨by rfl, ?_⟩) hHeld ?_ ?_
        rotate_left
        ·
         rintro w' ⟨s0, s1, s2, s3⟩
         go_simp
         with_reducible rfl
        rotate_left
        ·
         simp only [Act.put, List.setIfInBounds_toArray, List.set_cons_zero, List.set_cons_succ, i64_w, i32_w]
         rfl
        refine take_ (i := 8) (N := some 18) (v := ?_) (a' := ?_) #[true, true, true, true, true, true, true, true, true, false, false] rfl rfl (take_ofW HT_.out HW_.out (by kernel_rfl)) (fun _ _ _ h => h) (Or.inl ⟨by rfl, ?_⟩) hHeld ?_ ?_
        rotate_left
        ·
         rintro w' ⟨s0, s1, s2, s3⟩
         go_simp
         with_reducible rfl
        rotate_left
        ·
         simp only [Act.put, List.setIfInBounds_toArray, List.set_cons_zero, List.set_cons_succ, i64_w, i32_w]
         rfl
        refine one_ (i := 9) (N := some 19) #[true, true, true, true, true, true, true, true, true, true, false] rfl rfl (one_of HT_.out (by kernel_rfl)) (by decide) (fun K hK => ?_)
        refine goes_ Tryz.func47 (by kernel_rfl) rfl #[.agg #[.int .i64 ((rd_T25 l0 (ji3)).f0), .int .i64 ((rd_T25 l0 (ji3)).f1)], .agg #[.int .i64 ((rd_T25 l0 x3_1).f0), .int .i64 ((rd_T25 l0 x3_1).f1)]] (by rfl) rfl rfl (by (try simp only [List.map_toArray, List.map_cons, List.map_nil]); first | done | (simp only [hji3]; rfl) | rfl | (simp only [List.length_drop, List.length_take]; rfl)) ?_
        with_reducible refine (dot_Compare.calls k1 ((rd_T25 l0 (ji3)).f0) ((rd_T25 l0 (ji3)).f1) ((rd_T25 l0 x3_1).f0) ((rd_T25 l0 x3_1).f1) t124 _ A7.out).mono ?_
        rintro e w10 ⟨rfl, hb⟩
        refine ⟨_, rfl, ?_⟩
        have n0_ := za0.mk (zaa (by repeat (first | (with_reducible first | exact HB.out | apply za2 | apply za1 | apply za3) | exact HB.out)) hb)
        clear HB
        have HB := n0_
        clear n0_
        (try clear hb)
        (try clear hb2)
        (try clear hk)
        (try clear hi)
        refine hK.out _ _ ⟨((HB.out.cell (World.block_lt_of_cell? w _ hw122_0)).trans hw122_0), ((HB.out.cell (World.block_lt_of_cell? w _ hw122_1)).trans hw122_1), ((HB.out.cell (World.block_lt_of_cell? w _ hw123_0)).trans hw123_0), ((HB.out.cell (World.block_lt_of_cell? w _ hw123_1)).trans hw123_1)⟩ (fun hHeld => ?_)
        clear hK K
        refine norm_ (a' := ?_) ?_ ?_
        rotate_left
        ·
         show Act.put _ (some 19) _ = _
         simp only [Act.put, List.setIfInBounds_toArray, List.set_cons_zero, List.set_cons_succ, i64_w, i32_w]
         rfl
        refine pure_ (i := 10) (N := some 20) (v := ?_) (a' := ?_) #[true, true, true, true, true, true, true, true, true, true, true] rfl rfl (any_of HT_.out (by kernel_rfl)) (fun _ _ _ h => h) (Or.inl ⟨by rfl, ?_⟩) ?_ ?_
        rotate_left
        ·
         intro w'
         go_simp
         with_reducible rfl
        rotate_left
        ·
         simp only [Act.put, List.setIfInBounds_toArray, List.set_cons_zero, List.set_cons_succ, i64_w, i32_w]
         rfl
        refine done_ (done_of HT_.out (by kernel_rfl)) ?_
        try go_wp2
        go_ret
        exact ⟨by first | rfl | (simp [zac, zab] <;> rfl) | (simp only [← hji3]; first | rfl | (simp [zac, zab] <;> rfl)) | (simp [*, zac, zab] <;> rfl), by repeat (first | (with_reducible first | exact HB.out | apply za2 | apply za1 | apply za3) | exact HB.out)⟩
       ·
        rw [if_neg c8] at H
        have c8b0 : decide (0 ≤ t124) = false := decide_eq_false c8
        clear c8
        have H' := za0.mk H
        clear H
        try go_wp2
        have n0_ := za0.mk (za3 HB.out)
        clear HB
        have HB := n0_
        clear n0_
        have p122 : 0 ≤ ((ji3) : Int) := of_decide_eq_true (by first | (with_reducible assumption) | assumption)
        have q122 : (ji3) < (l0.length : Int) := of_decide_eq_true (by first | (with_reducible assumption) | assumption)
        obtain ⟨ad122, e122, hx122_0, hx122_1⟩ := at_T25 HR0.out (ji3) p122 q122
        have hw122_1 := hx122_1
        have hw122_0 := hx122_0
        cases e122
        replace hx122_0 := (HB.out.cell (World.block_lt_of_cell? w _ hx122_0)).trans hx122_0
        replace hx122_1 := (HB.out.cell (World.block_lt_of_cell? w _ hx122_1)).trans hx122_1
        replace p122 := eq_true p122
        replace q122 := eq_true q122
        have p123 : 0 ≤ (x3_1 : Int) := of_decide_eq_true (by first | (with_reducible assumption) | assumption)
        have q123 : x3_1 < (l0.length : Int) := of_decide_eq_true (by first | (with_reducible assumption) | assumption)
        obtain ⟨ad123, e123, hx123_0, hx123_1⟩ := at_T25 HR0.out x3_1 p123 q123
        have hw123_1 := hx123_1
        have hw123_0 := hx123_0
        obtain rfl : ad122 = ad123 := (by injection e123)
        replace hx123_0 := (HB.out.cell (World.block_lt_of_cell? w _ hx123_0)).trans hx123_0
        replace hx123_1 := (HB.out.cell (World.block_lt_of_cell? w _ hx123_1)).trans hx123_1
        replace p123 := eq_true p123
        replace q123 := eq_true q123
        refine start_ (n := 11) (S := fun w' => w'.cell? (ad122.add (((ji3)).toNat * 2)) = some (.int .i64 ((rd_T25 l0 (ji3)).f0)) ∧ w'.cell? ⟨(ad122.add (((ji3)).toNat * 2)).block, (ad122.add (((ji3)).toNat * 2)).off + 1, none⟩ = some (.int .i64 ((rd_T25 l0 (ji3)).f1)) ∧ w'.cell? (ad122.add ((x3_1).toNat * 2)) = some (.int .i64 ((rd_T25 l0 x3_1).f0)) ∧ w'.cell? ⟨(ad122.add ((x3_1).toNat * 2)).block, (ad122.add ((x3_1).toNat * 2)).off + 1, none⟩ = some (.int .i64 ((rd_T25 l0 x3_1).f1))) (ds := []) #[false, false, false, false, false, false, false, false, false, false, false] (by kernel_rfl) rfl rfl ⟨((HB.out.cell (World.block_lt_of_cell? w _ hw122_0)).trans hw122_0), ((HB.out.cell (World.block_lt_of_cell? w _ hw122_1)).trans hw122_1), ((HB.out.cell (World.block_lt_of_cell? w _ hw123_0)).trans hw123_0), ((HB.out.cell (World.block_lt_of_cell? w _ hw123_1)).trans hw123_1)⟩ (fun hHeld => ?_); refine with_tabW dot_IsSet.tab4 dot_IsSet.bits4 (fun HT_ HW_ => ?_)
        generalize wr.drew = w11 at HB hx122_0 hx122_1 hx123_0 hx123_1 hHeld ⊢
        refine pure_ (i := 0) (N := some 10) (v := ?_) (a' := ?_) #[true, false, false, false, false, false, false, false, false, false, false] rfl rfl (any_of HT_.out (by kernel_rfl)) (fun _ _ _ h => h) (Or.inl ⟨by rfl, ?_⟩) ?_ ?_
        rotate_left
        ·
         intro w'
         go_simp
         with_reducible rfl
        rotate_left
        ·
         simp only [Act.put, List.setIfInBounds_toArray, List.set_cons_zero, List.set_cons_succ, i64_w, i32_w]
         rfl
        refine pure_ (i := 1) (N := some 11) (v := ?_) (a' := ?_) #[true, true, false, false, false, false, false, false, false, false, false] rfl rfl (any_of HT_.out (by kernel_rfl)) (fun _ _ _ h => h) (Or.inl ⟨by rfl, ?_⟩) ?_ ?_
        rotate_left
        ·
         intro w'
         go_simp
         with_reducible rfl
        rotate_left
        ·
         simp only [Act.put, List.setIfInBounds_toArray, List.set_cons_zero, List.set_cons_succ, i64_w, i32_w]
         rfl
        refine pure_ (i := 2) (N := some 12) (v := ?_) (a' := ?_) #[true, true, true, false, false, false, false, false, false, false, false] rfl rfl (any_of HT_.out (by kernel_rfl)) (fun _ _ _ h => h) (Or.inl ⟨by rfl, ?_⟩) ?_ ?_
        rotate_left
        ·
         intro w'
         go_simp
         with_reducible rfl
        rotate_left
        ·
         simp only [Act.put, List.setIfInBounds_toArray, List.set_cons_zero, List.set_cons_succ, i64_w, i32_w]
         rfl
        refine pure_ (i := 3) (N := some 13) (v := ?_) (a' := ?_) #[true, true, true, true, false, false, false, false, false, false, false] rfl rfl (any_of HT_.out (by kernel_rfl)) (fun _ _ _ h => h) (Or.inl ⟨by rfl, ?_⟩) ?_ ?_
        rotate_left
        ·
         intro w'
         go_simp
         with_reducible rfl
        rotate_left
        ·
         simp only [Act.put, List.setIfInBounds_toArray, List.set_cons_zero, List.set_cons_succ, i64_w, i32_w]
         rfl
        refine pure_ (i := 5) (N := some 15) (v := ?_) (a' := ?_) #[true, true, true, true, false, true, false, false, false, false, false] rfl rfl (any_of HT_.out (by kernel_rfl)) (fun _ _ _ h => h) (Or.inl ⟨by rfl, ?_⟩) ?_ ?_
        rotate_left
        ·
         intro w'
         go_simp
         with_reducible rfl
        rotate_left
        ·
         simp only [Act.put, List.setIfInBounds_toArray, List.set_cons_zero, List.set_cons_succ, i64_w, i32_w]
         rfl
        refine pure_ (i := 6) (N := some 16) (v := ?_) (a' := ?_) #[true, true, true, true, false, true, true, false, false, false, false] rfl rfl (any_of HT_.out (by kernel_rfl)) (fun _ _ _ h => h) (Or.inl ⟨by rfl, ?_⟩) ?_ ?_
        rotate_left
        ·
         intro w'
         go_simp
         with_reducible rfl
        rotate_left
        ·
         simp only [Act.put, List.setIfInBounds_toArray, List.set_cons_zero, List.set_cons_succ, i64_w, i32_w]
         rfl
        refine pure_ (i := 7) (N := some 17) (v := ?_) (a' := ?_) #[true, true, true, true, false, true, true, true, false, false, false] rfl rfl (any_of HT_.out (by kernel_rfl)) (fun _ _ _ h => h) (Or.inl ⟨by rfl, ?_⟩) ?_ ?_
        rotate_left
        ·
         intro w'
         go_simp
         with_reducible rfl
        rotate_left
        ·
         simp only [Act.put, List.setIfInBounds_toArray, List.set_cons_zero, List.set_cons_succ, i64_w, i32_w]
         rfl
        refine take_ (i := 4) (N := some 14) (v := ?_) (a' := ?_) #[true, true, true, true, true, true, true, true, false, false, false] rfl rfl (take_ofW HT_.out HW_.out (by kernel_rfl)) (fun _ _ _ h => h) (Or.inl ⟨by rfl, ?_⟩) hHeld ?_ ?_
        rotate_left
        ·
         rintro w' ⟨s0, s1, s2, s3⟩
         go_simp
         with_reducible rfl
        rotate_left
        ·
         simp only [Act.put, List.setIfInBounds_toArray, List.set_cons_zero, List.set_cons_succ, i64_w, i32_w]
         rfl
        refine take_ (i := 8) (N := some 18) (v := ?_) (a' := ?_) #[true, true, true, true, true, true, true, true, true, false, false] rfl rfl (take_ofW HT_.out HW_.out (by kernel_rfl)) (fun _ _ _ h => h) (Or.inl ⟨by rfl, ?_⟩) hHeld ?_ ?_
        rotate_left
        ·
         rintro w' ⟨s0, s1, s2, s3⟩
         go_simp
         with_reducible rfl
        rotate_left
        ·
         simp only [Act.put, List.setIfInBounds_toArray, List.set_cons_zero, List.set_cons_succ, i64_w, i32_w]
         rfl
        refine one_ (i := 9) (N := some 19) #[true, true, true, true, true, true, true, true, true, true, false] rfl rfl (one_of HT_.out (by kernel_rfl)) (by decide) (fun K hK => ?_)
        refine goes_ Tryz.func47 (by kernel_rfl) rfl #[.agg #[.int .i64 ((rd_T25 l0 (ji3)).f0), .int .i64 ((rd_T25 l0 (ji3)).f1)], .agg #[.int .i64 ((rd_T25 l0 x3_1).f0), .int .i64 ((rd_T25 l0 x3_1).f1)]] (by rfl) rfl rfl (by (try simp only [List.map_toArray, List.map_cons, List.map_nil]); first | done | (simp only [hji3]; rfl) | rfl | (simp only [List.length_drop, List.length_take]; rfl)) ?_
        with_reducible refine (dot_Compare.calls k1 ((rd_T25 l0 (ji3)).f0) ((rd_T25 l0 (ji3)).f1) ((rd_T25 l0 x3_1).f0) ((rd_T25 l0 x3_1).f1) t124 _ A7.out).mono ?_
        rintro e w12 ⟨rfl, hb⟩
        refine ⟨_, rfl, ?_⟩
        have n0_ := za0.mk (zaa (by repeat (first | (with_reducible first | exact HB.out | apply za2 | apply za1 | apply za3) | exact HB.out)) hb)
        clear HB
        have HB := n0_
        clear n0_
        (try clear hb)
        (try clear hb2)
        (try clear hk)
        (try clear hi)
        refine hK.out _ _ ⟨((HB.out.cell (World.block_lt_of_cell? w _ hw122_0)).trans hw122_0), ((HB.out.cell (World.block_lt_of_cell? w _ hw122_1)).trans hw122_1), ((HB.out.cell (World.block_lt_of_cell? w _ hw123_0)).trans hw123_0), ((HB.out.cell (World.block_lt_of_cell? w _ hw123_1)).trans hw123_1)⟩ (fun hHeld => ?_)
        clear hK K
        refine norm_ (a' := ?_) ?_ ?_
        rotate_left
        ·
         show Act.put _ (some 19) _ = _
         simp only [Act.put, List.setIfInBounds_toArray, List.set_cons_zero, List.set_cons_succ, i64_w, i32_w]
         rfl
        refine pure_ (i := 10) (N := some 20) (v := ?_) (a' := ?_) #[true, true, true, true, true, true, true, true, true, true, true] rfl rfl (any_of HT_.out (by kernel_rfl)) (fun _ _ _ h => h) (Or.inl ⟨by rfl, ?_⟩) ?_ ?_
        rotate_left
        ·
         intro w'
         go_simp
         with_reducible rfl
        rotate_left
        ·
         simp only [Act.put, List.setIfInBounds_toArray, List.set_cons_zero, List.set_cons_succ, i64_w, i32_w]
         rfl
        refine done_ (done_of HT_.out (by kernel_rfl)) ?_
        try go_wp2
        go_roundg k1
        case measure => have := HK1.out; omega
        case rel => exact ⟨(wrap64 (x3_1 + 1)), (by first | rfl | (simp; done) | (simp [*]; done)), H', ⟨by have := HK1.out; omega⟩, ⟨by repeat (first | (with_reducible first | exact HB.out | apply za2 | apply za1 | apply za3) | exact HB.out)⟩⟩
      ·
       rw [if_neg c6] at H
       exact absurd H (by simp)
     ·
      rw [if_neg c5] at H
      exact absurd H (by simp)
    ·
     rw [if_neg c4] at H
     exact absurd H (by simp)
   ·
    rw [if_neg c2] at H
    have c2b0 : decide (x3_1 < (l0.length : Int)) = false := decide_eq_false c2
    clear c2
    obtain rfl := Option.some.inj H
    go_wp2
    go_ret
    exact ⟨by first | rfl | (simp [zac, zab] <;> rfl) | (simp [*, zac, zab] <;> rfl), by repeat (first | (with_reducible first | exact HB.out | apply za2 | apply za1 | apply za3) | exact HB.out)⟩
def store_dots.l0 : Nat → List (S25) → List (S53) → Int → Int → Option ((List (S25)))
 | 0, _, _, _, _ => none
 | k + 1, x3, x6, x7, x8 => if x8 < x7 then (if 0 ≤ x8 then (if x8 < (x6.length : Int) then (if x3.length < 8796093022208 then (store_dots.l0 k (x3 ++ [(⟨(za9 x6 x8).f0.f0, (za9 x6 x8).f0.f1⟩ : S25)]) x6 x7 (wrap64 (x8 + 1))) else (none)) else (none)) else (none)) else (some x3)
def store_dots.f (k : Nat) (l0 : List (S53)) : Option ((List (S25))) := store_dots.l0 k ([] : List (S25)) l0 (l0.length : Int) 0
set_option maxHeartbeats 8000000 in
set_option maxRecDepth 100000 in
theorem store_dots.calls (k : Nat) (A0 : Option Addr) (c0 : Nat) (l0 : List (S53)) (r : List (S25)) (w : World) (hr0 : Kd.C k53 w A0 l0.length l0) (hc0 : l0.length ≤ c0) (h : store_dots.f k l0 = some r) :
  Calls Tryz.prog 93 #[.slice A0 l0.length c0] w fun e w' => ∃ v0_ : Value, e = .returned (v0_) ∧ Kd.R k25 25 w' w.heap.size (fun _ => True) v0_ r ∧ Below w.heap.size w w' := by
 have hu53 := Tryz.underlying53
 have hu25 := Tryz.underlying25
 have HR0 := za0.mk hr0
 have HC0 := za0.mk hc0
 clear hr0 hc0
 have HB := za0.mk (Below.refl w.heap.size w)
 have H : (store_dots.l0 k ([] : List (S25)) l0 (l0.length : Int) 0) = some r := h
 clear h
 have H' := za0.mk H
 clear H
 go_enter Tryz.func93, Tryz.ntmps93
 go_wp2
 go_loopg [3, 8] k (fun kq v3 v8 w' => ∃ (x3_1 : List (S25)) (x8_1 : Int), v8 = .int .i64 x8_1 ∧ za0 (store_dots.l0 kq x3_1 l0 (l0.length : Int) x8_1 = some r) ∧ za0 (kq ≤ k) ∧ za0 (Kd.R k25 25 w' w.heap.size (fun _ => True) v3 x3_1) ∧ za0 (Below w.heap.size w w'))
 case atStart => exact ⟨(([] : List (S25))), (0), (by first | rfl | (simp; done) | (simp [*]; done)), H', ⟨Nat.le_refl _⟩, ⟨by first | exact Kd.R_nil _ _ _ _ _ | exact Kd.N_nil _ _ _ _ _ | exact Kd.V_nil _ _ _ _ _ | exact Kd.Q_nil _ _ _ _ _ | exact Kd.S_nil _ _ _ _ _⟩, ⟨by repeat (first | (with_reducible first | exact HB.out | apply za2 | apply za1 | apply za3) | exact HB.out)⟩⟩
 case round =>
  clear H'
  obtain ⟨x3_1, x8_1, rfl, HA, HK1, HO_3, HB⟩ := hrel
  cases gk with
  | zero => exact absurd HA.out (by simp [store_dots.l0])
  | succ k1 =>
   have H := HA.out
   clear HA
   simp only [store_dots.l0] at H
   by_cases c2 : x8_1 < (l0.length : Int)
   ·
    rw [if_pos c2] at H
    have c2b0 : decide (x8_1 < (l0.length : Int)) = true := decide_eq_true c2
    clear c2
    by_cases c3 : 0 ≤ x8_1
    ·
     rw [if_pos c3] at H
     have c3b0 : decide (0 ≤ x8_1) = true := decide_eq_true c3
     clear c3
     by_cases c4 : x8_1 < (l0.length : Int)
     ·
      rw [if_pos c4] at H
      have c4b0 : decide (x8_1 < (l0.length : Int)) = true := decide_eq_true c4
      clear c4
      by_cases c5 : x3_1.length < 8796093022208
      ·
       rw [if_pos c5] at H
       have LMc5 := za0.mk c5
       clear c5
       obtain ⟨y127, hy127⟩ : ∃ y_ : List (S25), y_ = (x3_1 ++ [(⟨(za9 l0 x8_1).f0.f0, (za9 l0 x8_1).f0.f1⟩ : S25)]) := ⟨_, rfl⟩
       replace H : (store_dots.l0 k1 y127 l0 (l0.length : Int) (wrap64 (x8_1 + 1))) = some r := by first | (rw [hy127]; with_reducible exact H) | (have H2_ := (Option.bind_some _ _).symm.trans H; rw [hy127]; with_reducible exact H2_) | (have H2_ := (Option.bind_some _ _).symm.trans H; with_reducible exact H2_) | with_reducible exact H | (rw [hy127]; exact H) | exact H
       have Ny127 := za0.mk hy127
       clear hy127
       have H' := za0.mk H
       clear H
       have p125 : 0 ≤ (x8_1 : Int) := of_decide_eq_true (by first | (with_reducible assumption) | assumption)
       have q125 : x8_1 < (l0.length : Int) := of_decide_eq_true (by first | (with_reducible assumption) | assumption)
       obtain ⟨ad125, e125, hx125_0, hx125_1, hx125_2, hx125_3, hx125_4, hx125_5⟩ := at_T53 HR0.out x8_1 p125 q125
       cases e125
       replace hx125_0 := (HB.out.cell (World.block_lt_of_cell? w _ hx125_0)).trans hx125_0
       replace hx125_1 := (HB.out.cell (World.block_lt_of_cell? w _ hx125_1)).trans hx125_1
       replace hx125_2 := (HB.out.cell (World.block_lt_of_cell? w _ hx125_2)).trans hx125_2
       replace hx125_3 := (HB.out.cell (World.block_lt_of_cell? w _ hx125_3)).trans hx125_3
       replace hx125_4 := (HB.out.cell (World.block_lt_of_cell? w _ hx125_4)).trans hx125_4
       replace hx125_5 := (HB.out.cell (World.block_lt_of_cell? w _ hx125_5)).trans hx125_5
       replace p125 := eq_true p125
       replace q125 := eq_true q125
       go_wp2_with (first | ((with_reducible refine zaq (N := 5) rfl ?_); refine zao ?hg (N := 5) ?hd (cs := #[.int .i64 0, .int .i64 0, .int .i64 0, .int .i64 0, .int .i64 0, .int .i32 0]) (t := 53) ?hr ?_; (case hd => rfl); (case hg => rfl); (case hr => first | (go_simp; done) | (go_simp; rfl)); intro gb126 hg w6 hbox hb; have n0_ := za0.mk (Kd.R_below (by (with_reducible repeat (first | apply Kd.R_alloc | apply Kd.R_drewN | apply Kd.R_drew)); exact HO_3.out) hb); have n1_ := za0.mk (zaa (by repeat (first | (with_reducible first | exact HB.out | apply za2 | apply za1 | apply za3) | exact HB.out)) hb); have n2_ := za0.mk (hbox); have n3_ := za0.mk ((by rw [hg]; exact (za8 (by repeat (first | (with_reducible first | exact HB.out | apply za2 | apply za1 | apply za3) | exact HB.out))) : w.heap.size ≤ gb126)); have n4_ := za0.mk ((by rw [hg]; exact (za8 (by repeat (first | (with_reducible first | exact HB.out | apply za2 | apply za1 | apply za3) | exact HB.out))) : w.heap.size ≤ gb126)); clear HO_3; clear HB; have HO_3 := n0_; have HB := n1_; have BK126 := n2_; have GW126 := n3_; have GE126 := n4_; clear n0_ n1_ n2_ n3_ n4_; clear hb hbox hg; have hcz7_0 : w6.cell? ⟨gb126, 0, none⟩ = some (.int .i64 0) := (za4 BK126.out 0).trans rfl; have hcz7_1 : w6.cell? ⟨gb126, 1, none⟩ = some (.int .i64 0) := (za4 BK126.out 1).trans rfl; have hcz7_2 : w6.cell? ⟨gb126, 2, none⟩ = some (.int .i64 0) := (za4 BK126.out 2).trans rfl; have hcz7_3 : w6.cell? ⟨gb126, 3, none⟩ = some (.int .i64 0) := (za4 BK126.out 3).trans rfl; have hcz7_4 : w6.cell? ⟨gb126, 4, none⟩ = some (.int .i64 0) := (za4 BK126.out 4).trans rfl; have hcz7_5 : w6.cell? ⟨gb126, 5, none⟩ = some (.int .i32 0) := (za4 BK126.out 5).trans rfl; have hfz7_0 := za6 BK126.out 0; have hfz7_1 := za6 BK126.out 1; have hfz7_2 := za6 BK126.out 2; have hfz7_3 := za6 BK126.out 3; have hfz7_4 := za6 BK126.out 4; have hfz7_5 := za6 BK126.out 5) | ((with_reducible refine gate_builtin (b := .append) (xs := #[.tmp 12, .tmp 15]) rfl ?_); at_builtin; refine Kd.R_append k25 (w0 := w) w.heap.size rfl (.tmp 12) (.tmp 15) 70 25 (.agg #[(.int .i64 0), (.int .i64 0)]) 16 rfl Tryz.underlying70 info25 rfl (by decide) (by omega) u3 x3_1 (⟨(za9 l0 x8_1).f0.f0, (za9 l0 x8_1).f0.f1⟩ : S25) [.int .i64 ((za9 l0 x8_1).f0.f0), .int .i64 ((za9 l0 x8_1).f0.f1)] (fun _ => True) (fun _ => False) rfl (by first | (go_simp; done) | (go_simp; rfl)) ?aP (fun _ hk => hk.elim) ?aF ?aO ?aB ?aS ?aL ?_; (case aP => exact k25_mkM _ _ _ (⟨(za9 l0 x8_1).f0.f0, (za9 l0 x8_1).f0.f1⟩ : S25)); (case aB => exact (by repeat (first | (with_reducible first | exact HB.out | apply za2 | apply za1 | apply za3 | refine zae ?_ GE126.out) | exact HB.out))); (case aF => exact (fun _ _ => trivial)); (case aO => exact (by (with_reducible repeat (first | apply Kd.R_alloc | apply Kd.R_drewN | apply Kd.R_drew)); exact Kd.R_mono (Kd.R_far (p := ⟨gb126, 5, none⟩) (Kd.R_far (p := ⟨gb126, 4, none⟩) (Kd.R_far (p := ⟨gb126, 3, none⟩) (Kd.R_far (p := ⟨gb126, 2, none⟩) (Kd.R_far (p := ⟨gb126, 1, none⟩) (Kd.R_far (p := ⟨gb126, 0, none⟩) (Kd.R_types HO_3.out BK126.out (by decide)) (fun _ hk => hk.2) (.int .i64 ((za9 l0 x8_1).f0.f0))) (fun _ hk => hk.2) (.int .i64 ((za9 l0 x8_1).f0.f1))) (fun _ hk => hk.2) (.int .i64 ((za9 l0 x8_1).f1.f0))) (fun _ hk => hk.2) (.int .i64 ((za9 l0 x8_1).f1.f1))) (fun _ hk => hk.2) (.int .i64 ((za9 l0 x8_1).f2))) (fun _ hk => hk.2) (.int .i32 ((za9 l0 x8_1).f3))) (fun _ hk => trivial))); (case aS => exact (za8 (by repeat (first | (with_reducible first | exact HB.out | apply za2 | apply za1 | apply za3 | refine zae ?_ GE126.out) | exact HB.out)))); (case aL => have := LMc5.out; omega); intro v128 w8 ho hb hg hat; rw [← Ny127.out] at ho; have n0_ := za0.mk (blk_grown (g := gb126) (o := .cells #[.int .i64 ((za9 l0 x8_1).f0.f0), .int .i64 ((za9 l0 x8_1).f0.f1), .int .i64 ((za9 l0 x8_1).f1.f0), .int .i64 ((za9 l0 x8_1).f1.f1), .int .i64 ((za9 l0 x8_1).f2), .int .i32 ((za9 l0 x8_1).f3)] 53 (0, 0)) (by (with_reducible repeat (first | refine zaj ?_ _ | refine zai ?_ | refine zad ?_ _)); refine blk_put (cs := #[.int .i64 ((za9 l0 x8_1).f0.f0), .int .i64 ((za9 l0 x8_1).f0.f1), .int .i64 ((za9 l0 x8_1).f1.f0), .int .i64 ((za9 l0 x8_1).f1.f1), .int .i64 ((za9 l0 x8_1).f2), .int .i32 0]) ?_ 5 _ rfl; (with_reducible repeat (first | refine zaj ?_ _ | refine zai ?_ | refine zad ?_ _)); refine blk_put (cs := #[.int .i64 ((za9 l0 x8_1).f0.f0), .int .i64 ((za9 l0 x8_1).f0.f1), .int .i64 ((za9 l0 x8_1).f1.f0), .int .i64 ((za9 l0 x8_1).f1.f1), .int .i64 0, .int .i32 0]) ?_ 4 _ rfl; (with_reducible repeat (first | refine zaj ?_ _ | refine zai ?_ | refine zad ?_ _)); refine blk_put (cs := #[.int .i64 ((za9 l0 x8_1).f0.f0), .int .i64 ((za9 l0 x8_1).f0.f1), .int .i64 ((za9 l0 x8_1).f1.f0), .int .i64 0, .int .i64 0, .int .i32 0]) ?_ 3 _ rfl; (with_reducible repeat (first | refine zaj ?_ _ | refine zai ?_ | refine zad ?_ _)); refine blk_put (cs := #[.int .i64 ((za9 l0 x8_1).f0.f0), .int .i64 ((za9 l0 x8_1).f0.f1), .int .i64 0, .int .i64 0, .int .i64 0, .int .i32 0]) ?_ 2 _ rfl; (with_reducible repeat (first | refine zaj ?_ _ | refine zai ?_ | refine zad ?_ _)); refine blk_put (cs := #[.int .i64 ((za9 l0 x8_1).f0.f0), .int .i64 0, .int .i64 0, .int .i64 0, .int .i64 0, .int .i32 0]) ?_ 1 _ rfl; (with_reducible repeat (first | refine zaj ?_ _ | refine zai ?_ | refine zad ?_ _)); refine blk_put (cs := #[.int .i64 0, .int .i64 0, .int .i64 0, .int .i64 0, .int .i64 0, .int .i32 0]) ?_ 0 _ rfl; (with_reducible repeat (first | refine zaj ?_ _ | refine zai ?_ | refine zad ?_ _)); exact BK126.out) hg (Kd.R_ne HO_3.out BK126.out (by decide))); have n1_ := za0.mk (hb); have n2_ := za0.mk (ho); clear BK126; clear HB; clear HO_3; have BK126 := n0_; have HB := n1_; have HO129 := n2_; clear n0_ n1_ n2_; clear ho hb hg hat))
       go_roundg k1
       case measure => have := HK1.out; omega
       case rel => exact ⟨(y127), (wrap64 (x8_1 + 1)), (by first | rfl | (simp; done) | (simp [*]; done)), H', ⟨by have := HK1.out; omega⟩, ⟨by (with_reducible repeat (first | apply Kd.R_alloc | apply Kd.R_drewN | apply Kd.R_drew)); exact HO129.out⟩, ⟨by repeat (first | (with_reducible first | exact HB.out | apply za2 | apply za1 | apply za3 | refine zae ?_ GE126.out) | exact HB.out)⟩⟩
      ·
       rw [if_neg c5] at H
       exact absurd H (by simp)
     ·
      rw [if_neg c4] at H
      exact absurd H (by simp)
    ·
     rw [if_neg c3] at H
     exact absurd H (by simp)
   ·
    rw [if_neg c2] at H
    have c2b0 : decide (x8_1 < (l0.length : Int)) = false := decide_eq_false c2
    clear c2
    obtain rfl := Option.some.inj H
    go_wp2
    go_ret
    exact ⟨_, by first | rfl | (simp [zac, zab] <;> rfl) | (simp [*, zac, zab] <;> rfl), by (with_reducible repeat (first | apply Kd.R_alloc | apply Kd.R_drewN | apply Kd.R_drew)); exact HO_3.out, by repeat (first | (with_reducible first | exact HB.out | apply za2 | apply za1 | apply za3) | exact HB.out)⟩
section
open Go.Shelf
attribute [local go_sem] Oper.semAt_some
abbrev Dot := S25
abbrev Node := S53
abbrev vDot (x : Dot) : Value := .agg #[.int .i64 x.f0, .int .i64 x.f1]
abbrev vNode (x : Node) : Value := .agg #[.int .i64 x.f0.f0, .int .i64 x.f0.f1, .int .i64 x.f1.f0, .int .i64 x.f1.f1, .int .i64 x.f2, .int .i32 x.f3]
theorem Dot.ext' {a b : Dot} (h0 : a.f0 = b.f0) (h1 : a.f1 = b.f1) : a = b := by cases a; cases b; simp_all
theorem Dot.ext_iff' {a b : Dot} : a = b ↔ a.f0 = b.f0 ∧ a.f1 = b.f1 := ⟨fun h => by subst h; exact ⟨rfl, rfl⟩, fun h => Dot.ext' h.1 h.2⟩
instance : DecidableEq Dot := fun a b => decidable_of_iff (a.f0 = b.f0 ∧ a.f1 = b.f1) Dot.ext_iff'.symm
theorem Node.ext_iff' {a b : Node} : a = b ↔ a.f0 = b.f0 ∧ a.f1 = b.f1 ∧ a.f2 = b.f2 ∧ a.f3 = b.f3 := ⟨fun h => by subst h; exact ⟨rfl, rfl, rfl, rfl⟩, fun h => by cases a; cases b; simp_all⟩
instance : DecidableEq Node := fun a b => decidable_of_iff (a.f0 = b.f0 ∧ a.f1 = b.f1 ∧ a.f2 = b.f2 ∧ a.f3 = b.f3) Node.ext_iff'.symm
/-- A dot of a node; the root's; a rune of a text; a node that is allowed. -/
def dotOk (d : Dot) : Bool := decide (1 ≤ d.f0 ∧ d.f0 ≤ 64 ∧ 1 ≤ d.f1 ∧ d.f1 ≤ 4294967295)
def dotRoot (d : Dot) : Bool := decide (d.f0 = 0 ∧ d.f1 = 0)
def runeOk (r : Int) : Bool := decide (r ≠ 0 ∧ ((0 ≤ r ∧ r < 55296) ∨ (57343 < r ∧ r ≤ 1114111)))
def nodeOk (x : Node) : Bool := decide (dotOk x.f0 = true ∧ (dotRoot x.f1 = true ∨ dotOk x.f1 = true) ∧ x.f1 ≠ x.f0 ∧ 1 ≤ x.f2 ∧ x.f2 ≤ 4611686018427387904 ∧ (x.f3 = 0 ∨ runeOk x.f3 = true))
/-- Before another dot; increasing. -/
def dotLt (a b : Dot) : Bool := decide (a.f1 < b.f1 ∨ (a.f1 = b.f1 ∧ a.f0 < b.f0))
def zas (a b : Dot) : Int := if dotLt a b then -1 else if dotLt b a then 1 else 0
def incB : List Dot → Bool
 | [] => true
 | [_] => true
 | a :: b :: r => dotLt a b && incB (b :: r)
def zak (l : List Node) : Bool := l.all nodeOk && incB (l.map (·.f0))
theorem dotCmp_ge (a b : Dot) : (zas a b ≥ 0) ↔ ¬ dotLt a b = true := by
 unfold zas
 by_cases h : dotLt a b = true
 ·
  simp [h]
 ·
  rw [if_neg h]
  constructor
  ·
   exact fun _ => h
  ·
   intro _; split <;> decide
theorem dotLt_irrefl (a : Dot) : dotLt a a = false := by unfold dotLt; simp
theorem dotLt_trans {a b c : Dot} (h : dotLt a b = true) (k : dotLt b c = true) : dotLt a c = true := by
 unfold dotLt at *; simp only [decide_eq_true_eq] at *; omega
theorem dotLt_asymm {a b : Dot} (h : dotLt a b = true) : dotLt b a = false := by
 unfold dotLt at *; simp only [decide_eq_true_eq, decide_eq_false_iff_not] at *; omega
theorem dotLt_total {a b : Dot} (h : dotLt a b = false) (k : dotLt b a = false) : a = b := by
 unfold dotLt at *; simp only [decide_eq_false_iff_not] at *; exact Dot.ext' (by omega) (by omega)
theorem zal (w : World) (o : Obj) : (w.alloc o).heap[w.heap.size]? = some o := by
 show (w.heap.push o)[w.heap.size]? = some o
 simp
theorem za7 {W W' : World} {g : Nat} {o : Obj} (h : W.heap[g]? = some o) (hb : Below W.heap.size W W') : W'.heap[g]? = some o := (hb.block g (zan h)).trans h
theorem za5 {w W W' : World} (h : Below w.heap.size w W) (k : Below W.heap.size W W') : Below w.heap.size w W' := below_then h h.size k
theorem validRune_is (k : Nat) (r : Int) : utf8_ValidRune.f (k + 1) r = some (decide ((0 ≤ r ∧ r < 55296) ∨ (57343 < r ∧ r ≤ 1114111))) := by
 unfold utf8_ValidRune.f utf8_ValidRune.j0
 by_cases h0 : 0 ≤ r <;> by_cases h1 : r < 55296 <;> by_cases h2 : 57343 < r <;> by_cases h3 : r ≤ 1114111 <;> simp [h0, h1, h2, h3] <;> omega
theorem runesValid_is (k : Nat) (r : Int) : runes_Valid.f (k + 1) r = some (runeOk r) := by
 unfold runes_Valid.f runeOk
 rw [validRune_is]
 by_cases h : r = 0 <;> simp [h]
theorem dotValid_is (a b : Int) : dot_Valid.f a b = some (dotOk ⟨a, b⟩) := by
 unfold dot_Valid.f dotOk
 by_cases h0 : a ≥ 1 <;> by_cases h1 : a ≤ 64 <;> by_cases h2 : b ≥ 1 <;> by_cases h3 : b ≤ 4294967295 <;> simp [h0, h1, h2, h3] <;> omega
theorem dotRoot_is (a b : Int) : dot_Root.f a b = some (dotRoot ⟨a, b⟩) := by
 unfold dot_Root.f dotRoot
 by_cases h0 : a = 0 <;> by_cases h1 : b = 0 <;> simp [h0, h1]
theorem nodeValid_is (k : Nat) (x : Node) : node_Valid.f (k + 1) x.f0.f0 x.f0.f1 x.f1.f0 x.f1.f1 x.f2 x.f3 = some (nodeOk x) := by
 unfold node_Valid.f nodeOk
 simp only [dotValid_is, dotRoot_is, runesValid_is, node_Dead.f, Option.bind_some]
 have e : ((!(x.f1.f0 == x.f0.f0) || !(x.f1.f1 == x.f0.f1)) = true) ↔ x.f1 ≠ x.f0 := by
  rw [Ne, Dot.ext_iff']; simp; omega
 simp only [e]
 have e1 : x.f2 ≥ 1 ↔ 1 ≤ x.f2 := Iff.rfl
 by_cases h1 : dotOk x.f0 = true
 ·
  by_cases h4 : x.f1 ≠ x.f0
  ·
   by_cases h5 : 1 ≤ x.f2
   ·
    by_cases h6 : x.f2 ≤ 4611686018427387904
    ·
     cases h2 : dotRoot x.f1 <;> cases h3 : dotOk x.f1 <;> cases h8 : runeOk x.f3 <;> by_cases h7 : x.f3 = 0 <;> simp [h1, h2, h3, h4, h5, h6, h7, h8]
    ·
     cases h2 : dotRoot x.f1 <;> cases h3 : dotOk x.f1 <;> simp [h1, h2, h3, h4, h5, h6]
   ·
    cases h2 : dotRoot x.f1 <;> cases h3 : dotOk x.f1 <;> simp [h1, h2, h3, h4, h5]
  ·
   cases h2 : dotRoot x.f1 <;> cases h3 : dotOk x.f1 <;> simp [h1, h2, h3, h4]
 ·
  simp [h1]
theorem cmpCompare_is (a b : Int) : cmp_Compare_int.f a b = some (if a < b then -1 else if b < a then 1 else 0) := by
 unfold cmp_Compare_int.f cmp_isNaN_int.f
 simp
 split
 ·
  rfl
 ·
  split <;> rfl
theorem dotCompare_is (k : Nat) (a b : Dot) : dot_Compare.f (k + 3) a.f0 a.f1 b.f0 b.f1 = some (zas a b) := by
 unfold dot_Compare.f
 simp only [cmpCompare_is, Option.bind_some]
 unfold cmp_Or_int.f zas dotLt
 have w1 : wrap64 1 = 1 := by unfold wrap64; omega
 have w2 : wrap64 (1 + 1) = 2 := by unfold wrap64; omega
 have w3 : wrap64 2 = 2 := by unfold wrap64; omega
 rcases Int.lt_trichotomy a.f1 b.f1 with h | h | h
 ·
  have h' : ¬ b.f1 < a.f1 := by omega
  simp [h, cmp_Or_int.l0, rd]
 ·
  rcases Int.lt_trichotomy a.f0 b.f0 with g | g | g
  ·
   simp [h, g, cmp_Or_int.l0, rd, w1]
  ·
   simp [h, g, cmp_Or_int.l0, rd, w1, w2, w3]
  ·
   have g' : ¬ a.f0 < b.f0 := by omega
   simp [h, g, g', cmp_Or_int.l0, rd, w1]
 ·
  have h' : ¬ a.f1 < b.f1 := by omega
  have h2 : ¬ a.f1 = b.f1 := by omega
  have h3 : ¬ b.f1 = a.f1 := by omega
  simp [h, h', h2, h3, cmp_Or_int.l0, rd]
theorem wrap_one {i : Int} {n : Nat} (h0 : -1 ≤ i) (h : i < (n : Int)) (hn : n ≤ 9223372036854775806) : wrap64 (i + 1) = i + 1 := by
 unfold wrap64; omega
theorem wrap_pred {i : Int} (h0 : 0 ≤ i) (h : i ≤ 9223372036854775806) : wrap64 (i - 1) = i - 1 := by
 unfold wrap64; omega
theorem node_at {w wr : World} {A : Option Addr} {n : Nat} {xs : List Node} (h : Kd.C k53 w A n xs) (hb : Below w.heap.size w wr) (k : Nat) (x : Node) (hk : xs[k]? = some x) :
  ∃ ad, A = some ad ∧ wr.cell? (ad.add (k * 6)) = some (.int .i64 x.f0.f0) ∧ wr.cell? ⟨(ad.add (k * 6)).block, (ad.add (k * 6)).off + 1, none⟩ = some (.int .i64 x.f0.f1) ∧ wr.cell? ⟨(ad.add (k * 6)).block, (ad.add (k * 6)).off + 2, none⟩ = some (.int .i64 x.f1.f0) ∧ wr.cell? ⟨(ad.add (k * 6)).block, (ad.add (k * 6)).off + 3, none⟩ = some (.int .i64 x.f1.f1) ∧ wr.cell? ⟨(ad.add (k * 6)).block, (ad.add (k * 6)).off + 4, none⟩ = some (.int .i64 x.f2) ∧ wr.cell? ⟨(ad.add (k * 6)).block, (ad.add (k * 6)).off + 5, none⟩ = some (.int .i32 x.f3) := by
 have hl := Kd.C_len h
 have hlt := (List.getElem?_eq_some_iff.1 hk).1
 obtain ⟨ad, e, h0, h1, h2, h3, h4, h5⟩ := at_T53 h (k : Int) (by omega) (by omega)
 have hd : za9 xs (k : Int) = x := by simp [za9, hk]
 rw [hd] at h0 h1 h2 h3 h4 h5
 simp only [Int.toNat_natCast] at h0 h1 h2 h3 h4 h5
 exact ⟨ad, e, zaf hb h0, zaf hb h1, zaf hb h2, zaf hb h3, zaf hb h4, zaf hb h5⟩
def idxFrom (p : Node → Bool) (l : List Node) : Int := match l.findIdx? p with | some i => (i : Int) | none => -1
theorem idxFrom_at {p : Node → Bool} {l : List Node} {k : Nat} {x : Node} (hk : l[k]? = some x) (hx : p x = true) (hno : ∀ j y, j < k → l[j]? = some y → p y = false) : idxFrom p l = k := by
 unfold idxFrom
 rw [List.findIdx?_eq_some_iff_getElem.2 ⟨(List.getElem?_eq_some_iff.1 hk).1, by rw [(List.getElem?_eq_some_iff.1 hk).2]; exact hx, fun j hj => by rw [hno j _ hj (List.getElem?_eq_getElem _)]; simp⟩]
theorem idxFrom_none {p : Node → Bool} {l : List Node} (hno : ∀ j y, j < l.length → l[j]? = some y → p y = false) : idxFrom p l = -1 := by
 unfold idxFrom
 rw [List.findIdx?_eq_none_iff.2 fun x hx => by
  obtain ⟨j, hj⟩ := List.getElem?_of_mem hx
  exact hno j x (List.getElem?_eq_some_iff.1 hj).1 hj]
theorem no_step {p : Node → Bool} {l : List Node} {k : Nat} {x : Node} (hk : l[k]? = some x) (hx : p x = false) (hno : ∀ j y, j < k → l[j]? = some y → p y = false) : ∀ j y, j < k + 1 → l[j]? = some y → p y = false := by
 intro j y hj hy
 rcases Nat.lt_succ_iff_lt_or_eq.1 hj with h | h
 ·
  exact hno j y h hy
 ·
  subst h; rw [hk] at hy; cases hy; exact hx
set_option maxHeartbeats 400000 in
theorem IndexFuncNode.calls (p : Node → Bool) (fn : Nat) (caps : Array Value) (A0 : Option Addr) (c0 : Nat) (l0 : List Node) (w : World) (hr0 : Kd.C k53 w A0 l0.length l0) (hc0 : l0.length ≤ c0)
  (hcall : ∀ args W, (callFunc fn args).run Tryz.prog W = .ok (.enter fn args) W)
  (hp : ∀ x W, Below w.heap.size w W → Calls Tryz.prog fn (#[vNode x] ++ caps) W fun e W' => e = .returned (.bool (p x)) ∧ Below W.heap.size W W') :
  Calls Tryz.prog 105 #[.slice A0 l0.length c0, .func (.func fn) #[] caps] w fun e w' => e = .returned (.int .i64 (idxFrom p l0)) ∧ Below w.heap.size w w' := by
 have hm := Kd.C_max hr0
 have hu := Tryz.underlying53
 have HR := za0.mk hr0
 have HP := za0.mk hp
 have HC := za0.mk hc0
 clear hr0 hp hc0
 go_enter Tryz.func105, Tryz.ntmps105
 go_wp2
 go_loopw [5, 8] (fun _ i wr => ∃ k : Nat, k ≤ l0.length ∧ i = .int .i64 k ∧ za0 (∀ j y, j < k → l0[j]? = some y → p y = false) ∧ za0 (Below w.heap.size w wr)) (fun _ i _ => l0.length - (intOf i).toNat)
 case atStart => exact ⟨0, Nat.zero_le _, rfl, ⟨fun j y hj => absurd hj (Nat.not_lt_zero _)⟩, ⟨Below.refl _ _⟩⟩
 case round =>
  obtain ⟨k, hk, rfl, hno, hb⟩ := hrel
  by_cases hlt : k < l0.length
  ·
   obtain ⟨x, hx⟩ : ∃ x, za0 (l0[k]? = some x) := ⟨_, ⟨List.getElem?_eq_getElem hlt⟩⟩
   obtain ⟨ad, e, h0, h1, h2, h3, h4, h5⟩ := node_at HR.out hb.out k x hx.out
   subst e
   cases hpx : p x with
   | true =>
    have HX := za0.mk hpx
    clear hpx
    go_wp2
    refine (HP.out x _ hb.out).mono ?_
    rintro e W' ⟨rfl, hb2⟩
    rw [HX.out]
    go_wp2
    go_ret
    exact ⟨by rw [idxFrom_at hx.out HX.out hno.out]; rfl, below_then hb.out hb.out.size hb2⟩
   | false =>
    have HX := za0.mk hpx
    clear hpx
    go_wp2
    refine (HP.out x _ hb.out).mono ?_
    rintro e W' ⟨rfl, hb2⟩
    rw [HX.out]
    go_wp2
    go_roundw
    case rel => exact ⟨k + 1, by omega, by go_num, ⟨no_step hx.out HX.out hno.out⟩, ⟨below_then hb.out hb.out.size hb2⟩⟩
    case measure => simp [intOf]; omega
  ·
   go_wp2
   go_ret
   obtain rfl : k = l0.length := by omega
   exact ⟨by rw [idxFrom_none hno.out]; rfl, hb.out⟩
set_option maxHeartbeats 400000 in
theorem ContainsFuncNode.calls (p : Node → Bool) (fn : Nat) (caps : Array Value) (A0 : Option Addr) (c0 : Nat) (l0 : List Node) (w : World) (hr0 : Kd.C k53 w A0 l0.length l0) (hc0 : l0.length ≤ c0)
  (hcall : ∀ args W, (callFunc fn args).run Tryz.prog W = .ok (.enter fn args) W)
  (hp : ∀ x W, Below w.heap.size w W → Calls Tryz.prog fn (#[vNode x] ++ caps) W fun e W' => e = .returned (.bool (p x)) ∧ Below W.heap.size W W') :
  Calls Tryz.prog 90 #[.slice A0 l0.length c0, .func (.func fn) #[] caps] w fun e w' => e = .returned (.bool (l0.any p)) ∧ Below w.heap.size w w' := by
 have HI := za0.mk (IndexFuncNode.calls p fn caps A0 c0 l0 w hr0 hc0 hcall hp)
 clear hr0 hc0 hp hcall
 go_enter Tryz.func90, Tryz.ntmps90
 go_wp2_with fail
 refine HI.out.mono ?_
 rintro e W' ⟨rfl, hb⟩
 have hi : decide (idxFrom p l0 ≥ 0) = l0.any p := by
  unfold idxFrom
  cases h : l0.findIdx? p with
  | none => simp [List.findIdx?_eq_none_iff] at h; simp; exact h
  | some i => simp; exact ⟨_, List.getElem_mem (List.findIdx?_eq_some_iff_getElem.1 h).1, (List.findIdx?_eq_some_iff_getElem.1 h).2.1⟩
 have HI2 := za0.mk hi
 clear hi
 go_wp2
 go_ret
 exact ⟨by rw [← HI2.out]; rfl, hb⟩
theorem invalid_is (k : Nat) (x : Node) : store_invalid.f (k + 1) x.f0.f0 x.f0.f1 x.f1.f0 x.f1.f1 x.f2 x.f3 = some (!nodeOk x) := by
 unfold store_invalid.f
 rw [nodeValid_is]; rfl
theorem incB_drop_cons (l : List Dot) (i : Nat) (h : i + 1 < l.length) : incB (l.drop i) = (dotLt l[i] l[i + 1] && incB (l.drop (i + 1))) := by
 rw [List.drop_eq_getElem_cons (by omega), List.drop_eq_getElem_cons (i := i + 1) (by omega)]; rfl
theorem isSet_from (l : List Dot) (hl : l.length ≤ 9223372036854775806) (d : Nat) : ∀ (k i : Nat), i + d = l.length → d + 3 < k → dot_IsSet.l0 k l ((i : Int) + 1) = some (incB (l.drop i)) := by
 induction d with
 | zero =>
  intro k i hd hk
  obtain ⟨k, rfl⟩ : ∃ m, k = m + 1 := ⟨k - 1, by omega⟩
  simp only [dot_IsSet.l0]
  rw [if_neg (by omega), List.drop_of_length_le (by omega)]; rfl
 | succ d ih =>
  intro k i hd hk
  obtain ⟨k, rfl⟩ : ∃ m, k = m + 1 := ⟨k - 1, by omega⟩
  simp only [dot_IsSet.l0]
  by_cases hlt : i + 1 < l.length
  ·
   have hw : wrap64 ((i : Int) + 1 - 1) = (i : Int) := by rw [wrap_pred (by omega) (by omega)]; omega
   have hw2 : wrap64 ((i : Int) + 1 + 1) = ((i + 1 : Nat) : Int) + 1 := by rw [wrap_one (n := l.length) (by omega) (by omega) (by omega)]; omega
   rw [if_pos (by omega), hw, if_pos (by omega), if_pos (by omega), if_pos (by omega)]
   obtain ⟨k, rfl⟩ : ∃ m, k = m + 3 := ⟨k - 3, by omega⟩
   have e1 : rd_T25 l (i : Int) = l[i] := by simp [rd_T25, show i < l.length by omega]
   have e2 : rd_T25 l ((i : Int) + 1) = l[i + 1] := by
    have : ((i : Int) + 1).toNat = i + 1 := by omega
    simp [rd_T25, this, hlt]
   rw [e1, e2, dotCompare_is, hw2, incB_drop_cons l i hlt]
   simp only [Option.bind_some]
   rw [ih (k + 3) (i + 1) (by omega) (by omega)]
   cases h : dotLt l[i] l[i + 1]
   ·
    rw [if_pos ((dotCmp_ge _ _).2 (by simp [h]))]; rfl
   ·
    rw [if_neg (fun hg => (dotCmp_ge _ _).1 hg h)]; simp
  ·
   rw [if_neg (by omega)]
   have : l.drop i = [l[i]'(by omega)] := by
    rw [List.drop_eq_getElem_cons (by omega), List.drop_of_length_le (by omega)]
   rw [this]; rfl
theorem isSet_is (l : List Dot) (hl : l.length ≤ 1000000) : dot_IsSet.f 1000005 l = some (incB l) := by
 have h := isSet_from l (by omega) l.length 1000005 0 (by omega) (by omega)
 exact h
theorem dots_from (l : List Node) (hl : l.length ≤ 1000000) (d : Nat) : ∀ (k i : Nat), i + d = l.length → d < k → store_dots.l0 k ((l.take i).map (·.f0)) l (l.length : Int) (i : Int) = some (l.map (·.f0)) := by
 induction d with
 | zero =>
  intro k i hd hk
  obtain ⟨k, rfl⟩ : ∃ m, k = m + 1 := ⟨k - 1, by omega⟩
  simp only [store_dots.l0]
  rw [if_neg (by omega), List.take_of_length_le (by omega)]
 | succ d ih =>
  intro k i hd hk
  obtain ⟨k, rfl⟩ : ∃ m, k = m + 1 := ⟨k - 1, by omega⟩
  simp only [store_dots.l0]
  rw [if_pos (by omega), if_pos (by omega), if_pos (by omega), if_pos (by simp; omega), wrap_one (n := l.length) (by omega) (by omega) (by omega)]
  have e : za9 l (i : Int) = l[i]'(by omega) := by simp [za9, show i < l.length by omega]
  have h := ih k (i + 1) (by omega) (by omega)
  rw [List.take_succ_eq_append_getElem (by omega), List.map_append] at h
  rw [e]
  exact h
theorem dots_is (l : List Node) (hl : l.length ≤ 1000000) : store_dots.f 1000001 l = some (l.map (·.f0)) := by
 have h := dots_from l hl l.length 1000001 0 (by omega) (by omega)
 exact h
def store_Valid.f (l0 : List Node) : Option Bool := if l0.length ≤ 1000000 then some (zak l0) else none
set_option maxHeartbeats 400000 in
set_option maxRecDepth 100000 in
theorem store_Valid.calls (A0 : Option Addr) (c0 : Nat) (l0 : List Node) (r : Bool) (w : World) (hr0 : Kd.C k53 w A0 l0.length l0) (hc0 : l0.length ≤ c0) (h : store_Valid.f l0 = some r) :
  Calls Tryz.prog 67 #[.slice A0 l0.length c0] w fun e w' => e = .returned (.bool r) ∧ Below w.heap.size w w' := by
 unfold store_Valid.f at h
 by_cases hl : l0.length ≤ 1000000
 ·
  rw [if_pos hl] at h
  have hr := za0.mk (Option.some.inj h)
  have HR := za0.mk hr0
  have HC := za0.mk hc0
  have HL := za0.mk hl
  clear h hr0 hc0 hl
  go_enter Tryz.func67, Tryz.ntmps67
  go_wp2_with fail
  refine (ContainsFuncNode.calls (fun x => !nodeOk x) 91 #[] A0 c0 l0 _ HR.out HC.out Tryz.call91 (fun x W hW => store_invalid.calls 1 _ _ _ _ _ _ _ W (invalid_is 0 x))).mono ?_
  rintro e W' ⟨rfl, hb⟩
  cases ha : l0.any (fun x => !nodeOk x) with
  | true =>
   have H1 := za0.mk ha
   clear ha
   go_wp2_with fail
   go_ret
   refine ⟨?_, hb⟩
   rw [← hr.out, zak]
   have : l0.all nodeOk = false := by
    have := H1.out
    rw [List.any_eq_true] at this
    obtain ⟨x, hx, hn⟩ := this
    rw [List.all_eq_false]
    exact ⟨x, hx, by simpa using hn⟩
   rw [this]; rfl
  | false =>
   have H1 := za0.mk ha
   clear ha
   go_wp2_with fail
   obtain ⟨ds, Hd⟩ : ∃ ds, za0 (ds = l0.map (·.f0)) := ⟨_, ⟨rfl⟩⟩
   refine (store_dots.calls 1000001 A0 c0 l0 ds _ (Kd.C_below HR.out hb) HC.out (by rw [Hd.out]; exact dots_is l0 HL.out)).mono ?_
   rintro e W2 ⟨v2, rfl, ho, hb2⟩
   obtain ⟨A2, c2, rfl, hc2, hr2⟩ := Kd.R_reads ho
   have H2 := za0.mk hr2
   have H3 := za0.mk hc2
   clear hr2 hc2 ho
   go_wp2_with fail
   refine (dot_IsSet.calls 1000005 _ _ _ _ _ H2.out H3.out (isSet_is ds (by rw [Hd.out, List.length_map]; exact HL.out))).mono ?_
   rintro e W3 ⟨rfl, hb3⟩
   have hall : l0.all nodeOk = true := by
    rw [List.all_eq_true]
    intro x hx
    have := H1.out
    rw [List.any_eq_false] at this
    simpa using this x hx
   have H4 := za0.mk hall
   clear hall
   have HB := za0.mk (below_then (below_then hb hb.size hb2) (below_then hb hb.size hb2).size hb3)
   cases hi : incB ds with
   | true =>
    have H5 := za0.mk hi
    clear hi
    go_wp2_with fail
    go_ret
    exact ⟨by rw [← hr.out, zak, H4.out, ← Hd.out, H5.out]; rfl, HB.out⟩
   | false =>
    have H5 := za0.mk hi
    clear hi
    go_wp2_with fail
    go_ret
    exact ⟨by rw [← hr.out, zak, H4.out, ← Hd.out, H5.out]; rfl, HB.out⟩
 ·
  rw [if_neg hl] at h; cases h
end
end
end Go.Proofs.YtmbndijbpgobeaaGreat.PWalk
end
section
namespace Go.AnyOrder
section
variable {P : Program} {ops : Array Oper} {Q : Exit → Act → World → Prop} {md : Region.Mode}
/-- How many are still to come. -/
def todo (n : Nat) (L : Array Bool) : Nat := (List.range n).countP fun i => !L.getD i true
theorem countP_lt {p q : Nat → Bool} : ∀ l : List Nat, (∀ x ∈ l, q x = true → p x = true) → (∃ x ∈ l, p x = true ∧ q x = false) → l.countP q < l.countP p
 | [], _, h => by simp at h
 | y :: l, hpq, h => by
  have hle : l.countP q ≤ l.countP p := List.countP_mono_left fun x hx => hpq x (List.mem_cons_of_mem _ hx)
  have hy := hpq y List.mem_cons_self
  rw [List.countP_cons, List.countP_cons]
  obtain ⟨x, hx, h1, h2⟩ := h
  rcases List.mem_cons.1 hx with rfl | hx
  ·
   rw [h1, h2]; simp; omega
  ·
   have := countP_lt l (fun x hx => hpq x (List.mem_cons_of_mem _ hx)) ⟨x, hx, h1, h2⟩
   by_cases hq : q y = true
   ·
    rw [hq, hy hq]; simp; omega
   ·
    have e : (if q y = true then 1 else 0) = 0 := if_neg hq
    rw [e]; omega
theorem todo_set {n i : Nat} {L : Array Bool} (hi : i < n) (h : L.getD i true = false) : todo n (L.setIfInBounds i true) < todo n L := by
 refine countP_lt _ (fun x _ hx => ?_) ⟨i, List.mem_range.2 hi, by simp [h], ?_⟩
 ·
  by_cases e : x = i
  ·
   subst e; simp [h]
  ·
   simpa [Array.getD_eq_getD_getElem?, Array.getElem?_setIfInBounds, Ne.symm e] using hx
 ·
  simp [Array.getD_eq_getD_getElem?, Array.getElem?_setIfInBounds]
  split <;> rfl
theorem mem_ready {L : Array Bool} {i : Nat} (h : i ∈ Region.ready md ops L) : i < ops.size ∧ L.getD i true = false ∧ (((ops[i]?).map (·.after.all fun e => !Region.binds md e || L.getD e.on false)).getD false) = true := by
 unfold Region.ready at h
 obtain ⟨h1, h2⟩ := List.mem_filter.1 h
 simp only [Bool.and_eq_true, Bool.not_eq_true'] at h2
 exact ⟨List.mem_range.1 h1, h2⟩
/-- What an operation that may come up waits for has come up. -/
theorem dep {L : Array Bool} {i q : Nat} {o : Oper} {e : Edge} (h : i ∈ Region.ready md ops L) (ho : ops[i]? = some o) (he : o.after[q]? = some e) (hb : Region.binds md e = true) : L.getD e.on false = true := by
 obtain ⟨_, _, h3⟩ := mem_ready h
 rw [ho] at h3
 simp only [Option.map_some, Option.getD_some] at h3
 rw [Array.all_eq_true'] at h3
 have := h3 e (Array.mem_of_getElem? he)
 rw [hb] at this
 exact this
theorem ready_nil {L : Array Bool} (h : todo ops.size L = 0) : Region.ready md ops L = [] := by
 rw [List.eq_nil_iff_forall_not_mem]
 intro i hi
 obtain ⟨h1, h2, _⟩ := mem_ready hi
 have := List.countP_eq_zero.1 h i (List.mem_range.2 h1)
 simp [h2] at this
theorem wpAny_inv (Inv : Array Bool → Act → World → Prop)
  (step : ∀ L a w i, Inv L a w → i ∈ Region.ready md ops L → ∀ K : Act → World → Prop, (∀ a' w', Inv (L.setIfInBounds i true) a' w' → K a' w') → wpOp P ops Q i K a w)
  (last : ∀ L a w, Inv L a w → Region.ready md ops L = [] → Q .normal a w) :
  ∀ (fuel : Nat) (L : Array Bool) (a : Act) (w : World), todo ops.size L ≤ fuel → Inv L a w → wpAny P md ops Q fuel L a w := by
 intro fuel
 induction fuel with
 | zero => intro L a w h hi; exact ⟨ready_nil (by omega), last _ _ _ hi (ready_nil (by omega))⟩
 | succ fuel ih =>
  intro L a w h hi
  refine ⟨fun hr => last _ _ _ hi hr, fun i hmem => step L a w i hi hmem _ fun a' w' hi' => ih _ _ _ ?_ hi'⟩
  have := mem_ready hmem
  have := todo_set this.1 this.2.1
  omega
/-- A region that draws. -/
theorem wp_region {id : Nat} {a : Act} {w : World} (hm : P.follows .mixedOrders = true) (Inv : Array Bool → Act → World → Prop)
  (start : Inv (Array.replicate ops.size false) a w.drew)
  (step : ∀ L a w i, Inv L a w → i ∈ Region.ready .any ops L → ∀ K : Act → World → Prop, (∀ a' w', Inv (L.setIfInBounds i true) a' w' → K a' w') → wpOp P ops Q i K a w)
  (last : ∀ L a w, Inv L a w → Region.ready .any ops L = [] → Q .normal a w) : (Code.region id ops true).wp P Q a w := by
 refine wp_region_any hm (wpAny_inv Inv step last _ _ _ _ ?_ start)
 exact Nat.le_trans List.countP_le_length (by simp)
/-- An operation that is to be carried out. -/
theorem wpOp_go {i : Nat} {o : Oper} {K : Act → World → Prop} {a : Act} {w : World} (ho : ops[i]? = some o) (hw : Region.wanted o (yielded ops a.tmps) = true) (h : o.wp P a w K Q) : wpOp P ops Q i K a w := by
 unfold wpOp; rw [ho]; simp only [hw, if_true]; exact .inl h
/-- One that is left out. -/
theorem wpOp_out {i : Nat} {o : Oper} {K : Act → World → Prop} {a : Act} {w : World} (ho : ops[i]? = some o) (hw : Region.wanted o (yielded ops a.tmps) = false) (h : K (a.put o.dst undef) w) : wpOp P ops Q i K a w := by
 unfold wpOp; rw [ho]; simp only [hw]; exact h
/-- Where nothing may come up any more, all have come up (no operation waits for a later one). -/
theorem all_listed {L : Array Bool} (hs : L.size = ops.size) (hd : ((List.range ops.size).all fun i => ((ops[i]?).map (·.after.all fun e => !Region.binds md e || decide (e.on < i))).getD true) = true) (hr : Region.ready md ops L = []) :
  ∀ i, i < ops.size → L.getD i true = true := by
 intro i
 induction i using Nat.strongRecOn with
 | _ i ih =>
  intro hi
  cases hl : L.getD i true with
  | true => rfl
  | false =>
   exfalso
   have hmem : i ∈ Region.ready md ops L := by
    unfold Region.ready
    refine List.mem_filter.2 ⟨List.mem_range.2 hi, ?_⟩
    have h1 := List.all_eq_true.1 hd i (List.mem_range.2 hi)
    rw [Array.getElem?_eq_getElem hi] at h1 ⊢
    simp only [Option.map_some, Option.getD_some] at h1 ⊢
    rw [hl]
    simp only [Bool.not_false, Bool.true_and]
    rw [Array.all_eq_true'] at h1 ⊢
    intro e he
    have h2 := h1 e he
    simp only [Bool.or_eq_true, Bool.not_eq_true', decide_eq_true_eq] at h2 ⊢
    rcases h2 with h2 | h2
    ·
     exact .inl h2
    ·
     have h3 := ih e.on h2 (by omega)
     refine .inr ?_
     rw [Array.getD_eq_getD_getElem?] at h3 ⊢
     rw [Array.getElem?_eq_getElem (by omega)] at h3 ⊢
     exact h3
   rw [hr] at hmem
   cases hmem
/-- Which one it is, out of a list of all. -/
def among (i : Nat) : List Nat → Prop
 | [] => False
 | k :: r => match r with
  | [] => i = k
  | _ :: _ => i = k ∨ among i r
theorem among_of {i : Nat} : ∀ {l : List Nat}, l.contains i = true → among i l
 | [], h => by simp at h
 | [k], h => by
  rw [List.contains_cons, Bool.or_eq_true, beq_iff_eq] at h
  exact h.elim id fun h => by simp at h
 | k :: m :: r, h => by
  rw [List.contains_cons, Bool.or_eq_true, beq_iff_eq] at h
  exact h.imp id among_of
theorem up {L : Array Bool} {i : Nat} (h : i ∈ Region.ready md ops L) (l : List Nat) (hl : (List.range ops.size).all l.contains = true) : among i l :=
 among_of (List.all_eq_true.1 hl i (List.mem_range.2 (mem_ready h).1))
/-- What an operation that may come up needs: it has not come up, and what it waits for has. -/
def needs (md : Region.Mode) (L : Array Bool) : List Edge → Prop
 | [] => ∀ p : Prop, p → p
 | e :: r => match Region.binds md e with
  | true => L.getD e.on false = true ∧ needs md L r
  | false => needs md L r
theorem first {L : Array Bool} {i : Nat} {o : Oper} (h : i ∈ Region.ready md ops L) (ho : ops[i]? = some o) : L.getD i true = false ∧ needs md L o.after.toList := by
 refine ⟨(mem_ready h).2.1, ?_⟩
 have hd : ∀ l : List Edge, (∀ e ∈ l, ∃ q : Nat, o.after[q]? = some e) → needs md L l := by
  intro l
  induction l with
  | nil => intro _ p hp; exact hp
  | cons e r ih =>
   intro hl
   have hr := ih fun e he => hl e (List.mem_cons_of_mem _ he)
   obtain ⟨q, hq⟩ := hl e List.mem_cons_self
   unfold needs
   cases hb : Region.binds md e with
   | true => exact ⟨dep h ho hq hb, hr⟩
   | false => exact hr
 exact hd _ fun e he => by
  obtain ⟨q, hq, e2⟩ := List.getElem_of_mem he
  exact ⟨q, by rw [← e2]; simp only [Array.length_toList] at hq; rw [Array.getElem?_eq_getElem hq]; rfl⟩
def allT : List Bool → Prop
 | [] => True
 | b :: r => b = true ∧ allT r
theorem alls {L : Array Bool} (hs : L.size = ops.size) (hd : ((List.range ops.size).all fun i => ((ops[i]?).map (·.after.all fun e => !Region.binds md e || decide (e.on < i))).getD true) = true) (hr : Region.ready md ops L = []) : allT L.toList := by
 have h := all_listed hs hd hr
 have hm : ∀ l : List Bool, (∀ b ∈ l, b = true) → allT l := by
  intro l
  induction l with
  | nil => intro _; trivial
  | cons b r ih => exact fun hl => ⟨hl b List.mem_cons_self, ih fun x hx => hl x (List.mem_cons_of_mem _ hx)⟩
 refine hm _ fun b hb => ?_
 obtain ⟨q, hq, e⟩ := List.getElem_of_mem hb
 rw [Array.length_toList] at hq
 have := h q (by omega)
 rw [Array.getD_eq_getD_getElem?, Array.getElem?_eq_getElem hq] at this
 rw [← e]
 exact this
end
end Go.AnyOrder
end
section
namespace Go.Proofs.YtmbndijbpgobeaaGreat.PWalk
open Go.RowKit Go.Proofs.YtmbndijbpgobeaaGreatW.PrintWords Go.Proofs.YtmbndijbpgobeaaGreatW.PrintLast Go.Proofs.YtmbndijbpgobeaaGreatW.PrintMore
set_option linter.unusedVariables false
set_option linter.unusedSimpArgs false
open Go.Shelf
attribute [local go_sem] Oper.semAt_some
section
/-- A node stands before another one with the same parent. -/
def nodeLt (a b : Node) : Bool := if a.f2 = b.f2 then dotLt b.f0 a.f0 else decide (b.f2 < a.f2)
def Gr (w W : World) : Prop := ∃ (q : Nat) (os : Array Obj), W = Go.Sort.grow (w.drewN q) os
theorem Gr.trans {a b c : World} (h : Gr a b) (k : Gr b c) : Gr a c := by
 obtain ⟨q, os, rfl⟩ := h
 obtain ⟨q', os', rfl⟩ := k
 exact ⟨q + q', os ++ os', by show Go.Sort.grow (Go.Sort.grow ((a.drewN q).drewN q') os) os' = _; rw [Go.Sort.grow_grow, World.drewN_drewN]⟩
theorem Gr.drew (w : World) : Gr w w.drew := ⟨1, #[], by rw [Go.Sort.grow_empty]; rfl⟩
theorem Gr.alloc (w : World) (o : Obj) : Gr w (w.alloc o) := ⟨0, #[o], by rw [Go.Sort.alloc_eq_grow]; rfl⟩
theorem Gr.drawn {w W : World} (h : zam w W) : Gr w W := by
 obtain ⟨n, rfl⟩ := h
 exact ⟨n, #[], by rw [Go.Sort.grow_empty]⟩
theorem Gr.below {w W : World} (h : Gr w W) : Below w.heap.size w W := by
 obtain ⟨q, os, rfl⟩ := h
 exact ⟨rfl, rfl, rfl, by show w.heap.size ≤ (w.heap ++ os).size; simp, fun k hk => by show (w.heap ++ os)[k]? = _; rw [Array.getElem?_append_left hk]⟩
theorem Gr.blk {w W : World} (h : Gr w W) {g : Nat} {o : Obj} (hg : w.heap[g]? = some o) : W.heap[g]? = some o := za7 hg h.below
def cmpI (a b : Int) : Int := if a < b then -1 else if b < a then 1 else 0
theorem cmpI_call (a b : Int) (W : World) : Calls Tryz.prog 77 #[.int .i64 a, .int .i64 b] W fun e W' => e = .returned (.int .i64 (cmpI a b)) ∧ Gr W W' :=
 (cmp_Compare_int.calls a b _ W (cmpCompare_is a b)).mono fun _ _ ⟨he, hd⟩ => ⟨he, Gr.drawn hd⟩
def orI (a b : Int) : Int := if a = 0 then b else a
theorem orI_call (a b : Int) (g : Nat) (W : World) (hg : W.heap[g]? = some (.cells #[.int .i64 a, .int .i64 b] 3 (0, 0))) : Calls Tryz.prog 76 #[.slice (some ⟨g, 0, none⟩) 2 2] W fun e W' => e = .returned (.int .i64 (orI a b)) ∧ Gr W W' := by
 refine (cmp_Or_int.calls 5 (some ⟨g, 0, none⟩) 2 [a, b] (orI a b) W ?_ (Nat.le_refl _) ?_).mono fun _ _ ⟨he, hd⟩ => ⟨he, Gr.drawn hd⟩
 ·
  refine ⟨rfl, by simp, fun _ => ⟨_, rfl, fun i x hi => ⟨[.int .i64 x], rfl, rfl, fun j u hu => ?_⟩⟩⟩
  rcases i with _ | _ | i
  ·
   rcases j with _ | j
   ·
    simp only [List.getElem?_cons_zero, Option.some.injEq] at hi hu; subst hi hu
    exact (za4 hg 0).trans rfl
   ·
    simp at hu
  ·
   rcases j with _ | j
   ·
    simp only [List.getElem?_cons_zero, List.getElem?_cons_succ, Option.some.injEq] at hi hu; subst hi hu
    exact (za4 hg 1).trans rfl
   ·
    simp at hu
  ·
   simp at hi
 ·
  unfold cmp_Or_int.f orI
  have w1 : wrap64 1 = 1 := by unfold wrap64; omega
  have w2 : wrap64 2 = 2 := by unfold wrap64; omega
  have w3 : wrap64 (1 + 1) = 2 := by unfold wrap64; omega
  by_cases h0 : a = 0
  ·
   by_cases h1 : b = 0
   ·
    simp [cmp_Or_int.l0, rd, h0, h1, w1, w2, w3]
   ·
    simp [cmp_Or_int.l0, rd, h0, h1, w1]
  ·
   simp [cmp_Or_int.l0, rd, h0]
theorem orI_dot (a b : Dot) : orI (cmpI a.f1 b.f1) (cmpI a.f0 b.f0) = zas a b := by
 unfold orI cmpI zas dotLt
 rcases Int.lt_trichotomy a.f1 b.f1 with h | h | h
 ·
  simp [h]
 ·
  rcases Int.lt_trichotomy a.f0 b.f0 with g | g | g
  ·
   simp [h, g]
  ·
   simp [h, g]
  ·
   have g' : ¬ a.f0 < b.f0 := by omega
   simp [h, g, g']
 ·
  have h' : ¬ a.f1 < b.f1 := by omega
  have h2 : ¬ a.f1 = b.f1 := by omega
  have h3 : ¬ b.f1 = a.f1 := by omega
  simp [h, h', h2, h3]
def sel (b : Bool) (v : Value) : Value := if b then v else undef
@[simp] theorem sel_true (v : Value) : sel true v = v := rfl
@[simp] theorem sel_false (v : Value) : sel false v = undef := rfl
/-- A place that an operation turns from u to v. -/
def selv (b : Bool) (v u : Value) : Value := if b then v else u
@[simp] theorem selv_true (v u : Value) : selv true v u = v := rfl
@[simp] theorem selv_false (v u : Value) : selv false v u = u := rfl
/-- Two boxes, and the pair of answers once it is laid. -/
structure Two (W0 : World) (A B : Nat) (oA oB : Obj) (x y : Int) (l : Bool) (g : Nat) (V : World) : Prop where
 gr : Gr W0 V
 a : W0.heap[A]? = some oA
 b : W0.heap[B]? = some oB
 pair : l = true → V.heap[g]? = some (.cells #[.int .i64 x, .int .i64 y] 3 (0, 0))
theorem Two.more {W0 : World} {A B : Nat} {oA oB : Obj} {x y : Int} {l : Bool} {g : Nat} {V V' : World} (h : Two W0 A B oA oB x y l g V) (k : Gr V V') : Two W0 A B oA oB x y l g V' := ⟨h.gr.trans k, h.a, h.b, fun e => k.blk (h.pair e)⟩
theorem Two.laid {W0 : World} {A B : Nat} {oA oB : Obj} {x y : Int} {l : Bool} {g : Nat} {V : World} (h : Two W0 A B oA oB x y l g V) : Two W0 A B oA oB x y true V.heap.size (V.alloc (.cells #[.int .i64 x, .int .i64 y] 3 (0, 0))) := ⟨h.gr.trans (Gr.alloc _ _), h.a, h.b, fun _ => zal _ _⟩
def dotCmpInv (W0 : World) (A B : Nat) (a b : Dot) (L : Array Bool) (ac : Act) (V : World) : Prop := ∃ (l0 l1 l2 l3 l4 l5 l6 l7 l8 l9 l10 l11 l12 : Bool) (g : Nat), L = #[l0, l1, l2, l3, l4, l5, l6, l7, l8, l9, l10, l11, l12] ∧ ac = { tmps := #[vDot a, vDot b, .pointer (some ⟨A, 0, none⟩), .pointer (some ⟨B, 0, none⟩), selv l12 (.int .i64 (orI (cmpI a.f1 b.f1) (cmpI a.f0 b.f0))) (.int .i64 0), sel l0 (.pointer (some ⟨A, 1, none⟩)), sel l1 (.int .i64 a.f1), sel l2 (.pointer (some ⟨B, 1, none⟩)), sel l3 (.int .i64 b.f1), sel l4 (.int .i64 (cmpI a.f1 b.f1)), sel l5 (.pointer (some ⟨A, 0, none⟩)), sel l6 (.int .i64 a.f0), sel l7 (.pointer (some ⟨B, 0, none⟩)), sel l8 (.int .i64 b.f0), sel l9 (.int .i64 (cmpI a.f0 b.f0)), sel l10 (.slice (some ⟨g, 0, none⟩) 2 2), sel l11 (.int .i64 (orI (cmpI a.f1 b.f1) (cmpI a.f0 b.f0)))], defers := [] } ∧ za0 (Two W0 A B (.cells #[.int .i64 a.f0, .int .i64 a.f1] 25 (0, 0)) (.cells #[.int .i64 b.f0, .int .i64 b.f1] 25 (0, 0)) (cmpI a.f1 b.f1) (cmpI a.f0 b.f0) l10 g V)
set_option maxHeartbeats 1000000 in
set_option maxRecDepth 100000 in
theorem dotCmp_call (a b : Dot) (w : World) : Calls Tryz.prog 47 #[vDot a, vDot b] w fun e w' => e = .returned (.int .i64 (zas a b)) ∧ Gr w w' := by
 have hB : ((w.alloc (.cells #[.int .i64 a.f0, .int .i64 a.f1] 25 (0, 0))).alloc (.cells #[.int .i64 b.f0, .int .i64 b.f1] 25 (0, 0))).heap[w.heap.size + 1]? = some (.cells #[.int .i64 b.f0, .int .i64 b.f1] 25 (0, 0)) := by have := zal (w.alloc (.cells #[.int .i64 a.f0, .int .i64 a.f1] 25 (0, 0))) (.cells #[.int .i64 b.f0, .int .i64 b.f1] 25 (0, 0)); rwa [World.size_alloc] at this
 have HB := za0.mk hB
 clear hB
 go_enter Tryz.func47, Tryz.ntmps47
 go_wp2_with fail
 have hB := HB.out
 refine AnyOrder.wp_region (by kernel_rfl) (dotCmpInv ((w.alloc (.cells #[.int .i64 a.f0, .int .i64 a.f1] 25 (0, 0))).alloc (.cells #[.int .i64 b.f0, .int .i64 b.f1] 25 (0, 0))) w.heap.size (w.heap.size + 1) a b) ?start ?step ?last
 case start => exact ⟨false, false, false, false, false, false, false, false, false, false, false, false, false, 0, rfl, rfl, ⟨⟨Gr.drew _, zad (zal _ _) _, hB, fun h => by cases h⟩⟩⟩
 case step =>
  rintro L ac V i ⟨l0, l1, l2, l3, l4, l5, l6, l7, l8, l9, l10, l11, l12, g, rfl, rfl, HF⟩ hi K hK
  rcases AnyOrder.up hi [0, 2, 5, 7, 12, 1, 3, 4, 9, 6, 8, 10, 11] rfl with rfl | rfl | rfl | rfl | rfl | rfl | rfl | rfl | rfl | rfl | rfl | rfl | rfl
  all_goals
   replace hi := AnyOrder.first hi rfl
   repeat (obtain ⟨ha, hi⟩ := hi; first | obtain rfl := ha | clear ha)
   clear hi
   try simp only [sel_true, selv_true] at hK ⊢
  iterate 5
   ·
    refine AnyOrder.wpOp_go rfl (by rfl) ?_
    go_wp2_with fail
    exact ⟨_, _, _, _, _, _, _, _, _, _, _, _, _, g, rfl, rfl, HF⟩
  ·
   have c1 : V.cell? ⟨w.heap.size, 1, none⟩ = _ := (za4 (HF.out.gr.blk HF.out.a) 1).trans rfl
   refine AnyOrder.wpOp_go rfl (by rfl) ?_
   go_wp2_with fail
   exact ⟨_, _, _, _, _, _, _, _, _, _, _, _, _, g, rfl, rfl, HF⟩
  ·
   have c1 : V.cell? ⟨w.heap.size + 1, 1, none⟩ = _ := (za4 (HF.out.gr.blk HF.out.b) 1).trans rfl
   refine AnyOrder.wpOp_go rfl (by rfl) ?_
   go_wp2_with fail
   exact ⟨_, _, _, _, _, _, _, _, _, _, _, _, _, g, rfl, rfl, HF⟩
  iterate 2
   ·
    refine AnyOrder.wpOp_go rfl (by rfl) ?_
    go_wp2_with fail
    refine (cmpI_call _ _ V).mono ?_
    rintro e V' ⟨rfl, hb⟩
    exact hK _ _ ⟨_, _, _, _, _, _, _, _, _, _, _, _, _, g, rfl, rfl, ⟨HF.out.more hb⟩⟩
  ·
   have c0 : V.cell? ⟨w.heap.size, 0, none⟩ = _ := (za4 (HF.out.gr.blk HF.out.a) 0).trans rfl
   refine AnyOrder.wpOp_go rfl (by rfl) ?_
   go_wp2_with fail
   exact ⟨_, _, _, _, _, _, _, _, _, _, _, _, _, g, rfl, rfl, HF⟩
  ·
   have c0 : V.cell? ⟨w.heap.size + 1, 0, none⟩ = _ := (za4 (HF.out.gr.blk HF.out.b) 0).trans rfl
   refine AnyOrder.wpOp_go rfl (by rfl) ?_
   go_wp2_with fail
   exact ⟨_, _, _, _, _, _, _, _, _, _, _, _, _, g, rfl, rfl, HF⟩
  ·
   refine AnyOrder.wpOp_go rfl (by rfl) ?_
   go_wp2_with fail
   exact ⟨_, _, _, _, _, _, _, _, _, _, _, _, _, V.heap.size, rfl, rfl, ⟨HF.out.laid⟩⟩
  ·
   refine AnyOrder.wpOp_go rfl (by rfl) ?_
   go_wp2_with fail
   refine (orI_call _ _ _ V (HF.out.pair rfl)).mono ?_
   rintro e V' ⟨rfl, hb⟩
   exact hK _ _ ⟨_, _, _, _, _, _, _, _, _, _, _, _, _, g, rfl, rfl, ⟨HF.out.more hb⟩⟩
 case last =>
  rintro L ac V ⟨l0, l1, l2, l3, l4, l5, l6, l7, l8, l9, l10, l11, l12, g, rfl, rfl, HF⟩ hr
  obtain ⟨rfl, rfl, rfl, rfl, rfl, rfl, rfl, rfl, rfl, rfl, rfl, rfl, rfl, -⟩ := AnyOrder.alls rfl (by kernel_rfl) hr
  clear hr
  simp only [sel_true, selv_true]
  go_wp2
  go_ret
  exact ⟨by rw [orI_dot]; rfl, ((Gr.alloc w _).trans (Gr.alloc _ _)).trans HF.out.gr⟩
def nodeLtInv (W0 : World) (A B : Nat) (a b : Node) (L : Array Bool) (ac : Act) (V : World) : Prop := ∃ (l0 l1 l2 l3 l4 l5 l6 l7 l8 l9 l10 l11 l12 l13 : Bool) (g : Nat), L = #[l0, l1, l2, l3, l4, l5, l6, l7, l8, l9, l10, l11, l12, l13] ∧ ac = { tmps := #[vNode a, vNode b, .pointer (some ⟨A, 0, none⟩), .pointer (some ⟨B, 0, none⟩), selv l13 (.bool (decide (orI (cmpI b.f2 a.f2) (zas b.f0 a.f0) < 0))) (.bool false), sel l0 (.pointer (some ⟨B, 4, none⟩)), sel l1 (.int .i64 b.f2), sel l2 (.pointer (some ⟨A, 4, none⟩)), sel l3 (.int .i64 a.f2), sel l4 (.int .i64 (cmpI b.f2 a.f2)), sel l5 (.pointer (some ⟨B, 0, none⟩)), sel l6 (vDot b.f0), sel l7 (.pointer (some ⟨A, 0, none⟩)), sel l8 (vDot a.f0), sel l9 (.int .i64 (zas b.f0 a.f0)), sel l10 (.slice (some ⟨g, 0, none⟩) 2 2), sel l11 (.int .i64 (orI (cmpI b.f2 a.f2) (zas b.f0 a.f0))), sel l12 (.bool (decide (orI (cmpI b.f2 a.f2) (zas b.f0 a.f0) < 0)))], defers := [] } ∧ za0 (Two W0 A B (.cells #[.int .i64 a.f0.f0, .int .i64 a.f0.f1, .int .i64 a.f1.f0, .int .i64 a.f1.f1, .int .i64 a.f2, .int .i32 a.f3] 53 (0, 0)) (.cells #[.int .i64 b.f0.f0, .int .i64 b.f0.f1, .int .i64 b.f1.f0, .int .i64 b.f1.f1, .int .i64 b.f2, .int .i32 b.f3] 53 (0, 0)) (cmpI b.f2 a.f2) (zas b.f0 a.f0) l10 g V)
theorem orI_node (a b : Node) : decide (orI (cmpI b.f2 a.f2) (zas b.f0 a.f0) < 0) = nodeLt a b := by
 unfold orI cmpI nodeLt zas
 rcases Int.lt_trichotomy a.f2 b.f2 with h | h | h
 ·
  have h' : ¬ b.f2 < a.f2 := by omega
  have h2 : ¬ a.f2 = b.f2 := by omega
  simp [h, h', h2]
 ·
  have h' : ¬ b.f2 < a.f2 := by omega
  have h3 : ¬ a.f2 < b.f2 := by omega
  rw [if_neg h', if_neg h3, if_pos rfl, if_pos h]
  cases h4 : dotLt b.f0 a.f0
  ·
   cases dotLt a.f0 b.f0 <;> simp
  ·
   simp
 ·
  have h2 : ¬ a.f2 = b.f2 := by omega
  simp [h, h2]
set_option maxHeartbeats 1000000 in
set_option maxRecDepth 100000 in
theorem nodeLt_call (a b : Node) (w : World) : Calls Tryz.prog 140 #[vNode a, vNode b] w fun e w' => e = .returned (.bool (nodeLt a b)) ∧ Gr w w' := by
 have hB : ((w.alloc (.cells #[.int .i64 a.f0.f0, .int .i64 a.f0.f1, .int .i64 a.f1.f0, .int .i64 a.f1.f1, .int .i64 a.f2, .int .i32 a.f3] 53 (0, 0))).alloc (.cells #[.int .i64 b.f0.f0, .int .i64 b.f0.f1, .int .i64 b.f1.f0, .int .i64 b.f1.f1, .int .i64 b.f2, .int .i32 b.f3] 53 (0, 0))).heap[w.heap.size + 1]? = some (.cells #[.int .i64 b.f0.f0, .int .i64 b.f0.f1, .int .i64 b.f1.f0, .int .i64 b.f1.f1, .int .i64 b.f2, .int .i32 b.f3] 53 (0, 0)) := by have := zal (w.alloc (.cells #[.int .i64 a.f0.f0, .int .i64 a.f0.f1, .int .i64 a.f1.f0, .int .i64 a.f1.f1, .int .i64 a.f2, .int .i32 a.f3] 53 (0, 0))) (.cells #[.int .i64 b.f0.f0, .int .i64 b.f0.f1, .int .i64 b.f1.f0, .int .i64 b.f1.f1, .int .i64 b.f2, .int .i32 b.f3] 53 (0, 0)); rwa [World.size_alloc] at this
 have HB := za0.mk hB
 clear hB
 go_enter Tryz.func140, Tryz.ntmps140
 go_wp2_with fail
 have hB := HB.out
 refine AnyOrder.wp_region (by kernel_rfl) (nodeLtInv ((w.alloc (.cells #[.int .i64 a.f0.f0, .int .i64 a.f0.f1, .int .i64 a.f1.f0, .int .i64 a.f1.f1, .int .i64 a.f2, .int .i32 a.f3] 53 (0, 0))).alloc (.cells #[.int .i64 b.f0.f0, .int .i64 b.f0.f1, .int .i64 b.f1.f0, .int .i64 b.f1.f1, .int .i64 b.f2, .int .i32 b.f3] 53 (0, 0))) w.heap.size (w.heap.size + 1) a b) ?start ?step ?last
 case start => exact ⟨false, false, false, false, false, false, false, false, false, false, false, false, false, false, 0, rfl, rfl, ⟨⟨Gr.drew _, zad (zal _ _) _, hB, fun h => by cases h⟩⟩⟩
 case step =>
  rintro L ac V i ⟨l0, l1, l2, l3, l4, l5, l6, l7, l8, l9, l10, l11, l12, l13, g, rfl, rfl, HF⟩ hi K hK
  rcases AnyOrder.up hi [0, 2, 5, 7, 12, 13, 1, 3, 4, 6, 8, 9, 10, 11] rfl with rfl | rfl | rfl | rfl | rfl | rfl | rfl | rfl | rfl | rfl | rfl | rfl | rfl | rfl
  all_goals
   replace hi := AnyOrder.first hi rfl
   repeat (obtain ⟨ha, hi⟩ := hi; first | obtain rfl := ha | clear ha)
   clear hi
   try simp only [sel_true, selv_true] at hK ⊢
  iterate 6
   ·
    refine AnyOrder.wpOp_go rfl (by rfl) ?_
    go_wp2_with fail
    exact ⟨_, _, _, _, _, _, _, _, _, _, _, _, _, _, g, rfl, rfl, HF⟩
  ·
   have c4 : V.cell? ⟨w.heap.size + 1, 4, none⟩ = _ := (za4 (HF.out.gr.blk HF.out.b) 4).trans rfl
   refine AnyOrder.wpOp_go rfl (by rfl) ?_
   go_wp2_with fail
   exact ⟨_, _, _, _, _, _, _, _, _, _, _, _, _, _, g, rfl, rfl, HF⟩
  ·
   have c4 : V.cell? ⟨w.heap.size, 4, none⟩ = _ := (za4 (HF.out.gr.blk HF.out.a) 4).trans rfl
   refine AnyOrder.wpOp_go rfl (by rfl) ?_
   go_wp2_with fail
   exact ⟨_, _, _, _, _, _, _, _, _, _, _, _, _, _, g, rfl, rfl, HF⟩
  ·
   refine AnyOrder.wpOp_go rfl (by rfl) ?_
   go_wp2_with fail
   refine (cmpI_call _ _ V).mono ?_
   rintro e V' ⟨rfl, hb⟩
   exact hK _ _ ⟨_, _, _, _, _, _, _, _, _, _, _, _, _, _, g, rfl, rfl, ⟨HF.out.more hb⟩⟩
  ·
   have c0 : V.cell? ⟨w.heap.size + 1, 0, none⟩ = _ := (za4 (HF.out.gr.blk HF.out.b) 0).trans rfl
   have c1 : V.cell? ⟨w.heap.size + 1, 1, none⟩ = _ := (za4 (HF.out.gr.blk HF.out.b) 1).trans rfl
   refine AnyOrder.wpOp_go rfl (by rfl) ?_
   go_wp2_with fail
   exact ⟨_, _, _, _, _, _, _, _, _, _, _, _, _, _, g, rfl, rfl, HF⟩
  ·
   have c0 : V.cell? ⟨w.heap.size, 0, none⟩ = _ := (za4 (HF.out.gr.blk HF.out.a) 0).trans rfl
   have c1 : V.cell? ⟨w.heap.size, 1, none⟩ = _ := (za4 (HF.out.gr.blk HF.out.a) 1).trans rfl
   refine AnyOrder.wpOp_go rfl (by rfl) ?_
   go_wp2_with fail
   exact ⟨_, _, _, _, _, _, _, _, _, _, _, _, _, _, g, rfl, rfl, HF⟩
  ·
   refine AnyOrder.wpOp_go rfl (by rfl) ?_
   go_wp2_with fail
   refine (dotCmp_call b.f0 a.f0 V).mono ?_
   rintro e V' ⟨rfl, hb⟩
   exact hK _ _ ⟨_, _, _, _, _, _, _, _, _, _, _, _, _, _, g, rfl, rfl, ⟨HF.out.more hb⟩⟩
  ·
   refine AnyOrder.wpOp_go rfl (by rfl) ?_
   go_wp2_with fail
   exact ⟨_, _, _, _, _, _, _, _, _, _, _, _, _, _, V.heap.size, rfl, rfl, ⟨HF.out.laid⟩⟩
  ·
   refine AnyOrder.wpOp_go rfl (by rfl) ?_
   go_wp2_with fail
   refine (orI_call _ _ _ V (HF.out.pair rfl)).mono ?_
   rintro e V' ⟨rfl, hb⟩
   exact hK _ _ ⟨_, _, _, _, _, _, _, _, _, _, _, _, _, _, g, rfl, rfl, ⟨HF.out.more hb⟩⟩
 case last =>
  rintro L ac V ⟨l0, l1, l2, l3, l4, l5, l6, l7, l8, l9, l10, l11, l12, l13, g, rfl, rfl, HF⟩ hr
  obtain ⟨rfl, rfl, rfl, rfl, rfl, rfl, rfl, rfl, rfl, rfl, rfl, rfl, rfl, rfl, -⟩ := AnyOrder.alls rfl (by kernel_rfl) hr
  clear hr
  simp only [sel_true, selv_true]
  go_wp2
  go_ret
  exact ⟨by rw [orI_node]; rfl, ((Gr.alloc w _).trans (Gr.alloc _ _)).trans HF.out.gr⟩
end
section
def firstI (a b : Node) : Int := if nodeLt a b = true then -1 else if nodeLt b a = true then 1 else 0
set_option maxHeartbeats 1000000 in
set_option maxRecDepth 100000 in
theorem first_call (a b : Node) (w : World) : Calls Tryz.prog 131 #[vNode a, vNode b] w fun e w' => e = .returned (.int .i64 (firstI a b)) ∧ Gr w w' := by
 have hA : ((w.alloc (.cells #[.int .i64 a.f0.f0, .int .i64 a.f0.f1, .int .i64 a.f1.f0, .int .i64 a.f1.f1, .int .i64 a.f2, .int .i32 a.f3] 53 (0, 0))).alloc (.cells #[.int .i64 b.f0.f0, .int .i64 b.f0.f1, .int .i64 b.f1.f0, .int .i64 b.f1.f1, .int .i64 b.f2, .int .i32 b.f3] 53 (0, 0))).heap[w.heap.size]? = some (.cells #[.int .i64 a.f0.f0, .int .i64 a.f0.f1, .int .i64 a.f1.f0, .int .i64 a.f1.f1, .int .i64 a.f2, .int .i32 a.f3] 53 (0, 0)) := zad (zal _ _) _
 have hB : ((w.alloc (.cells #[.int .i64 a.f0.f0, .int .i64 a.f0.f1, .int .i64 a.f1.f0, .int .i64 a.f1.f1, .int .i64 a.f2, .int .i32 a.f3] 53 (0, 0))).alloc (.cells #[.int .i64 b.f0.f0, .int .i64 b.f0.f1, .int .i64 b.f1.f0, .int .i64 b.f1.f1, .int .i64 b.f2, .int .i32 b.f3] 53 (0, 0))).heap[w.heap.size + 1]? = some (.cells #[.int .i64 b.f0.f0, .int .i64 b.f0.f1, .int .i64 b.f1.f0, .int .i64 b.f1.f1, .int .i64 b.f2, .int .i32 b.f3] 53 (0, 0)) := by have := zal (w.alloc (.cells #[.int .i64 a.f0.f0, .int .i64 a.f0.f1, .int .i64 a.f1.f0, .int .i64 a.f1.f1, .int .i64 a.f2, .int .i32 a.f3] 53 (0, 0))) (.cells #[.int .i64 b.f0.f0, .int .i64 b.f0.f1, .int .i64 b.f1.f0, .int .i64 b.f1.f1, .int .i64 b.f2, .int .i32 b.f3] 53 (0, 0)); rwa [World.size_alloc] at this
 have HA := za0.mk hA
 have HB := za0.mk hB
 have HG := za0.mk ((Gr.alloc w (.cells #[.int .i64 a.f0.f0, .int .i64 a.f0.f1, .int .i64 a.f1.f0, .int .i64 a.f1.f1, .int .i64 a.f2, .int .i32 a.f3] 53 (0, 0))).trans (Gr.alloc _ (.cells #[.int .i64 b.f0.f0, .int .i64 b.f0.f1, .int .i64 b.f1.f0, .int .i64 b.f1.f1, .int .i64 b.f2, .int .i32 b.f3] 53 (0, 0))))
 clear hA hB
 obtain ⟨r, HR⟩ : ∃ r, za0 (firstI a b = r) := ⟨_, ⟨rfl⟩⟩
 rw [HR.out]
 go_enter Tryz.func131, Tryz.ntmps131
 go_wp2_with fail
 generalize (w.alloc (.cells #[.int .i64 a.f0.f0, .int .i64 a.f0.f1, .int .i64 a.f1.f0, .int .i64 a.f1.f1, .int .i64 a.f2, .int .i32 a.f3] 53 (0, 0))).alloc (.cells #[.int .i64 b.f0.f0, .int .i64 b.f0.f1, .int .i64 b.f1.f0, .int .i64 b.f1.f1, .int .i64 b.f2, .int .i32 b.f3] 53 (0, 0)) = W0 at HA HB HG ⊢
 refine (nodeLt_call a b W0).mono ?_
 rintro e W1 ⟨rfl, hb⟩
 have HA := za0.mk (hb.blk HA.out)
 have HB := za0.mk (hb.blk HB.out)
 have HG := za0.mk (HG.out.trans hb)
 clear hb
 cases h1 : nodeLt a b with
 | true =>
  have H1 := za0.mk h1
  clear h1
  go_wp2_with fail
  go_ret
  exact ⟨by rw [← HR.out, firstI, if_pos H1.out]; rfl, HG.out⟩
 | false =>
  have H1 := za0.mk h1
  clear h1
  have cA0 : W1.cell? ⟨w.heap.size, 0, none⟩ = _ := (za4 HA.out 0).trans rfl
  have cA1 : W1.cell? ⟨w.heap.size, 1, none⟩ = _ := (za4 HA.out 1).trans rfl
  have cA2 : W1.cell? ⟨w.heap.size, 2, none⟩ = _ := (za4 HA.out 2).trans rfl
  have cA3 : W1.cell? ⟨w.heap.size, 3, none⟩ = _ := (za4 HA.out 3).trans rfl
  have cA4 : W1.cell? ⟨w.heap.size, 4, none⟩ = _ := (za4 HA.out 4).trans rfl
  have cA5 : W1.cell? ⟨w.heap.size, 5, none⟩ = _ := (za4 HA.out 5).trans rfl
  have cB0 : W1.cell? ⟨w.heap.size + 1, 0, none⟩ = _ := (za4 HB.out 0).trans rfl
  have cB1 : W1.cell? ⟨w.heap.size + 1, 1, none⟩ = _ := (za4 HB.out 1).trans rfl
  have cB2 : W1.cell? ⟨w.heap.size + 1, 2, none⟩ = _ := (za4 HB.out 2).trans rfl
  have cB3 : W1.cell? ⟨w.heap.size + 1, 3, none⟩ = _ := (za4 HB.out 3).trans rfl
  have cB4 : W1.cell? ⟨w.heap.size + 1, 4, none⟩ = _ := (za4 HB.out 4).trans rfl
  have cB5 : W1.cell? ⟨w.heap.size + 1, 5, none⟩ = _ := (za4 HB.out 5).trans rfl
  go_wp2_with fail
  refine (nodeLt_call b a W1).mono ?_
  rintro e W2 ⟨rfl, hb⟩
  have HG := za0.mk (HG.out.trans hb)
  clear hb
  cases h2 : nodeLt b a with
  | true =>
   have H2 := za0.mk h2
   clear h2
   go_wp2_with fail
   go_ret
   exact ⟨by rw [← HR.out, firstI, if_neg (by rw [H1.out]; decide), if_pos H2.out]; rfl, HG.out⟩
  | false =>
   have H2 := za0.mk h2
   clear h2
   go_wp2_with fail
   go_ret
   exact ⟨by rw [← HR.out, firstI, if_neg (by rw [H1.out]; decide), if_neg (by rw [H2.out]; decide)]; rfl, HG.out⟩
abbrev cmpV : Value := .func (.func 47) #[] #[]
abbrev vEnt (k : Dot) (v : Value) : Value := .agg #[.int .i64 k.f0, .int .i64 k.f1, v]
structure Find1 (W0 : World) (bm mp A B : Nat) (k : Dot) (v : Value) (d : Dot) (sl : Value) (V : World) : Prop where
 gr : Gr W0 V
 box : W0.heap[bm]? = some (.cells #[.pointer (some ⟨mp, 0, none⟩)] 143 (0, 0))
 map : W0.heap[mp]? = some (.cells #[cmpV, sl] 173 (0, 0))
 ent : W0.heap[A]? = some (.cells #[.int .i64 k.f0, .int .i64 k.f1, v] 176 (0, 0))
 key : W0.heap[B]? = some (.cells #[.int .i64 d.f0, .int .i64 d.f1] 25 (0, 0))
def find1Inv (W0 : World) (bm mp A B : Nat) (k : Dot) (v : Value) (d : Dot) (sl : Value) (L : Array Bool) (ac : Act) (V : World) : Prop := ∃ (l0 l1 l2 l3 l4 l5 l6 l7 l8 : Bool), L = #[l0, l1, l2, l3, l4, l5, l6, l7, l8] ∧ ac = { tmps := #[vEnt k v, vDot d, .pointer (some ⟨bm, 0, none⟩), .pointer (some ⟨A, 0, none⟩), .pointer (some ⟨B, 0, none⟩), selv l8 (.int .i64 (zas k d)) (.int .i64 0), sel l0 (.pointer (some ⟨mp, 0, none⟩)), sel l1 (.pointer (some ⟨mp, 0, none⟩)), sel l2 (.pointer (some ⟨mp, 0, none⟩)), sel l3 (cmpV), sel l4 (.pointer (some ⟨A, 0, none⟩)), sel l5 (vDot k), sel l6 (vDot d), sel l7 (.int .i64 (zas k d))], defers := [] } ∧ za0 (Find1 W0 bm mp A B k v d sl V)
set_option maxHeartbeats 1000000 in
set_option maxRecDepth 100000 in
theorem find1_call (k : Dot) (v : Value) (hv : v.oneCell' = true) (d : Dot) (bm mp : Nat) (sl : Value) (w : World) (hbm : w.heap[bm]? = some (.cells #[.pointer (some ⟨mp, 0, none⟩)] 143 (0, 0))) (hmp : w.heap[mp]? = some (.cells #[cmpV, sl] 173 (0, 0))) :
  Calls Tryz.prog 142 #[vEnt k v, vDot d, .pointer (some ⟨bm, 0, none⟩)] w fun e w' => e = .returned (.int .i64 (zas k d)) ∧ Gr w w' := by
 replace hbm := zad (zad hbm (.cells #[.int .i64 k.f0, .int .i64 k.f1, v] 176 (0, 0))) (.cells #[.int .i64 d.f0, .int .i64 d.f1] 25 (0, 0))
 replace hmp := zad (zad hmp (.cells #[.int .i64 k.f0, .int .i64 k.f1, v] 176 (0, 0))) (.cells #[.int .i64 d.f0, .int .i64 d.f1] 25 (0, 0))
 have hA : ((w.alloc (.cells #[.int .i64 k.f0, .int .i64 k.f1, v] 176 (0, 0))).alloc (.cells #[.int .i64 d.f0, .int .i64 d.f1] 25 (0, 0))).heap[w.heap.size]? = some (.cells #[.int .i64 k.f0, .int .i64 k.f1, v] 176 (0, 0)) := zad (zal _ _) _
 have hB : ((w.alloc (.cells #[.int .i64 k.f0, .int .i64 k.f1, v] 176 (0, 0))).alloc (.cells #[.int .i64 d.f0, .int .i64 d.f1] 25 (0, 0))).heap[w.heap.size + 1]? = some (.cells #[.int .i64 d.f0, .int .i64 d.f1] 25 (0, 0)) := by have := zal (w.alloc (.cells #[.int .i64 k.f0, .int .i64 k.f1, v] 176 (0, 0))) (.cells #[.int .i64 d.f0, .int .i64 d.f1] 25 (0, 0)); rwa [World.size_alloc] at this
 have H1 := za0.mk hbm
 have H2 := za0.mk hmp
 have H3 := za0.mk hA
 have H4 := za0.mk hB
 clear hbm hmp hA hB
 go_enter Tryz.func142, Tryz.ntmps142
 go_wp2_with fail
 have hbm := H1.out
 have hmp := H2.out
 have hA := H3.out
 have hB := H4.out
 refine AnyOrder.wp_region (by kernel_rfl) (find1Inv ((w.alloc (.cells #[.int .i64 k.f0, .int .i64 k.f1, v] 176 (0, 0))).alloc (.cells #[.int .i64 d.f0, .int .i64 d.f1] 25 (0, 0))) bm mp w.heap.size (w.heap.size + 1) k v d sl) ?start ?step ?last
 case start => exact ⟨false, false, false, false, false, false, false, false, false, rfl, rfl, ⟨⟨Gr.drew _, hbm, hmp, hA, hB⟩⟩⟩
 case step =>
  rintro L ac V i ⟨l0, l1, l2, l3, l4, l5, l6, l7, l8, rfl, rfl, HF⟩ hi K hK
  rcases AnyOrder.up hi [0, 1, 2, 4, 8, 3, 5, 6, 7] rfl with rfl | rfl | rfl | rfl | rfl | rfl | rfl | rfl | rfl
  all_goals
   replace hi := AnyOrder.first hi rfl
   repeat (obtain ⟨ha, hi⟩ := hi; first | obtain rfl := ha | clear ha)
   clear hi
   try simp only [sel_true, selv_true] at hK ⊢
  ·
   have cb0 : V.cell? ⟨bm, 0, none⟩ = _ := (za4 (HF.out.gr.blk HF.out.box) 0).trans rfl
   refine AnyOrder.wpOp_go rfl (by rfl) ?_
   go_wp2_with fail
   exact ⟨_, _, _, _, _, _, _, _, _, rfl, rfl, HF⟩
  iterate 4
   ·
    refine AnyOrder.wpOp_go rfl (by rfl) ?_
    go_wp2_with fail
    exact ⟨_, _, _, _, _, _, _, _, _, rfl, rfl, HF⟩
  ·
   have cm0 : V.cell? ⟨mp, 0, none⟩ = _ := (za4 (HF.out.gr.blk HF.out.map) 0).trans rfl
   refine AnyOrder.wpOp_go rfl (by rfl) ?_
   go_wp2_with fail
   exact ⟨_, _, _, _, _, _, _, _, _, rfl, rfl, HF⟩
  ·
   have ce0 : V.cell? ⟨w.heap.size, 0, none⟩ = _ := (za4 (HF.out.gr.blk HF.out.ent) 0).trans rfl
   have ce1 : V.cell? ⟨w.heap.size, 1, none⟩ = _ := (za4 (HF.out.gr.blk HF.out.ent) 1).trans rfl
   refine AnyOrder.wpOp_go rfl (by rfl) ?_
   go_wp2_with fail
   exact ⟨_, _, _, _, _, _, _, _, _, rfl, rfl, HF⟩
  ·
   have ck0 : V.cell? ⟨w.heap.size + 1, 0, none⟩ = _ := (za4 (HF.out.gr.blk HF.out.key) 0).trans rfl
   have ck1 : V.cell? ⟨w.heap.size + 1, 1, none⟩ = _ := (za4 (HF.out.gr.blk HF.out.key) 1).trans rfl
   refine AnyOrder.wpOp_go rfl (by rfl) ?_
   go_wp2_with fail
   exact ⟨_, _, _, _, _, _, _, _, _, rfl, rfl, HF⟩
  ·
   refine AnyOrder.wpOp_go rfl (by rfl) ?_
   go_wp2_with fail
   refine (dotCmp_call k d V).mono ?_
   rintro e V' ⟨rfl, hb⟩
   exact hK _ _ ⟨_, _, _, _, _, _, _, _, _, rfl, rfl, ⟨⟨HF.out.gr.trans hb, HF.out.box, HF.out.map, HF.out.ent, HF.out.key⟩⟩⟩
 case last =>
  rintro L ac V ⟨l0, l1, l2, l3, l4, l5, l6, l7, l8, rfl, rfl, HF⟩ hr
  obtain ⟨rfl, rfl, rfl, rfl, rfl, rfl, rfl, rfl, rfl, -⟩ := AnyOrder.alls rfl (by kernel_rfl) hr
  clear hr
  simp only [sel_true, selv_true]
  go_wp2
  go_ret
  exact ⟨rfl, ((Gr.alloc w _).trans (Gr.alloc _ _)).trans HF.out.gr⟩
structure Ents (W : World) (A : Option Addr) (n : Nat) (ks : List Dot) (vs : List Value) : Prop where
 kl : ks.length = n
 vl : vs.length = n
 small : n ≤ 1000000
 one : ∀ v ∈ vs, v.oneCell' = true
 row : ∀ i k v, ks[i]? = some k → vs[i]? = some v → ∃ eb, A = some ⟨eb, 0, none⟩ ∧ W.cell? ⟨eb, i * 3, none⟩ = some (.int .i64 k.f0) ∧ W.cell? ⟨eb, i * 3 + 1, none⟩ = some (.int .i64 k.f1) ∧ W.cell? ⟨eb, i * 3 + 2, none⟩ = some v
theorem Ents.below {W V : World} {A : Option Addr} {n : Nat} {ks : List Dot} {vs : List Value} (h : Ents W A n ks vs) (hb : Below W.heap.size W V) : Ents V A n ks vs :=
 ⟨h.kl, h.vl, h.small, h.one, fun i k v hk hv => by
  obtain ⟨eb, e, h0, h1, h2⟩ := h.row i k v hk hv
  exact ⟨eb, e, zaf hb h0, zaf hb h1, zaf hb h2⟩⟩
theorem Ents.get {W : World} {A : Option Addr} {n : Nat} {ks : List Dot} {vs : List Value} (h : Ents W A n ks vs) {i : Nat} (hi : i < n) : ∃ k v eb, ks[i]? = some k ∧ vs[i]? = some v ∧ v.oneCell' = true ∧ A = some ⟨eb, 0, none⟩ ∧ W.cell? ⟨eb, i * 3, none⟩ = some (.int .i64 k.f0) ∧ W.cell? ⟨eb, i * 3 + 1, none⟩ = some (.int .i64 k.f1) ∧ W.cell? ⟨eb, i * 3 + 2, none⟩ = some v := by
 have h1 : i < ks.length := by rw [h.kl]; exact hi
 have h2 : i < vs.length := by rw [h.vl]; exact hi
 obtain ⟨eb, e, c0, c1, c2⟩ := h.row i _ _ (List.getElem?_eq_getElem h1) (List.getElem?_eq_getElem h2)
 exact ⟨_, _, eb, List.getElem?_eq_getElem h1, List.getElem?_eq_getElem h2, h.one _ (List.getElem_mem h2), e, c0, c1, c2⟩
/-- How many keys come before a dot, and whether it is there. -/
def posK (ks : List Dot) (d : Dot) : Nat := (ks.takeWhile fun k => dotLt k d).length
def hasK (ks : List Dot) (d : Dot) : Bool := decide (ks[posK ks d]? = some d)
theorem posK_le (ks : List Dot) (d : Dot) : posK ks d ≤ ks.length := (List.takeWhile_sublist _).length_le
theorem incB_tail {k : Dot} {ks : List Dot} (h : incB (k :: ks) = true) : incB ks = true ∧ ∀ x ∈ ks, dotLt k x = true := by
 induction ks generalizing k with
 | nil => exact ⟨rfl, fun x hx => by cases hx⟩
 | cons y ks ih =>
  simp only [incB, Bool.and_eq_true] at h
  refine ⟨h.2, fun x hx => ?_⟩
  rcases List.mem_cons.1 hx with rfl | hx
  ·
   exact h.1
  ·
   exact dotLt_trans h.1 ((ih h.2).2 x hx)
theorem posK_iff {ks : List Dot} (h : incB ks = true) (d : Dot) : ∀ {i : Nat} {k : Dot}, ks[i]? = some k → (dotLt k d = true ↔ i < posK ks d) := by
 induction ks with
 | nil => intro i k hk; simp at hk
 | cons y ks ih =>
  intro i k hk
  obtain ⟨h1, h2⟩ := incB_tail h
  unfold posK
  rw [List.takeWhile_cons]
  by_cases hy : dotLt y d = true
  ·
   rw [if_pos hy]
   cases i with
   | zero => simp at hk; subst hk; simp [hy]
   | succ i =>
    have := ih h1 (i := i) (k := k) (by simpa using hk)
    rw [this]; simp [posK]
  ·
   rw [if_neg hy]
   cases i with
   | zero => simp at hk; subst hk; simp [hy]
   | succ i =>
    have hm : k ∈ ks := List.mem_of_getElem? (by simpa using hk)
    have : ¬ dotLt k d = true := fun e => hy (dotLt_trans (h2 k hm) e)
    simp [this]
theorem dotCmp_lt (a b : Dot) : decide (zas a b < 0) = dotLt a b := by
 unfold zas
 cases dotLt a b <;> simp
 cases dotLt b a <;> simp
theorem dotCmp_eq (a b : Dot) : (zas a b == 0) = decide (a = b) := by
 unfold zas
 cases h : dotLt a b with
 | true =>
  have : a ≠ b := fun e => by subst e; rw [dotLt_irrefl] at h; cases h
  simp [this]
 | false =>
  cases k : dotLt b a with
  | true =>
   have : a ≠ b := fun e => by subst e; rw [dotLt_irrefl] at k; cases k
   simp [this]
  | false => simp [dotLt_total h k]
structure Bs (w : World) (d : Dot) (V : World) : Prop where
 below : Below w.heap.size w V
 box : V.heap[w.heap.size]? = some (.cells #[.int .i64 d.f0, .int .i64 d.f1] 25 (0, 0))
theorem Bs.more {w V V' : World} {d : Dot} (h : Bs w d V) (hb : Below V.heap.size V V') : Bs w d V' := ⟨za5 h.below hb, za7 h.box hb⟩
theorem Bs.drew {w V : World} {d : Dot} (h : Bs w d V) : Bs w d V.drew := h.more (Gr.drew V).below
def bsrInv (w : World) (B bm eb n c : Nat) (d : Dot) (i j h : Nat) (k : Dot) (v : Value) (z12 z13 z14 z15 z16 z17 z18 z19 z20 z21 z22 z23 u24 u25 u26 u27 u28 u29 u30 u31 u32 u33 u34 : Value) (L : Array Bool) (ac : Act) (V : World) : Prop := ∃ (l0 l1 l2 l3 l4 l5 l6 l7 : Bool), L = #[l0, l1, l2, l3, l4, l5, l6, l7] ∧ ac = { tmps := #[.slice (some ⟨eb, 0, none⟩) n c, vDot d, .func (.func 142) #[] #[.pointer (some ⟨bm, 0, none⟩)], undef, .pointer (some ⟨B, 0, none⟩), undef, .int .i64 0, .bool false, .int .i64 n, .int .i64 i, .int .i64 j, .int .i64 h, z12, z13, z14, z15, z16, z17, z18, z19, z20, z21, z22, z23, selv l0 (.func (.func 142) #[] #[.pointer (some ⟨bm, 0, none⟩)]) (u24), selv l1 (.slice (some ⟨eb, 0, none⟩) n c) (u25), selv l2 (.int .i64 h) (u26), selv l3 (.pointer (some ⟨eb, h * 3, none⟩)) (u27), selv l4 (vEnt k v) (u28), selv l5 (vDot d) (u29), selv l6 (.int .i64 (zas k d)) (u30), selv l7 (.bool (decide (zas k d < 0))) (u31), u32, u33, u34, undef, undef, undef, undef, undef, undef, undef, undef, undef, undef, undef, undef, undef, undef], defers := [] } ∧ za0 (Bs w d V)
def bstInv (w : World) (B bm eb n c : Nat) (d : Dot) (q : Nat) (k : Dot) (v : Value) (y11 y12 y13 y14 y15 y16 y17 y18 y19 y20 y21 y22 y23 y24 y25 y26 y27 y28 y29 y30 y31 y32 y33 y34 : Value) (L : Array Bool) (ac : Act) (V : World) : Prop := ∃ (l0 l1 l2 l3 l4 l5 l6 l7 l8 l9 l10 l11 l12 l13 l14 l15 : Bool), L = #[l0, l1, l2, l3, l4, l5, l6, l7, l8, l9, l10, l11, l12, l13, l14, l15] ∧ ac = { tmps := #[.slice (some ⟨eb, 0, none⟩) n c, vDot d, .func (.func 142) #[] #[.pointer (some ⟨bm, 0, none⟩)], undef, .pointer (some ⟨B, 0, none⟩), undef, selv l14 (.int .i64 q) (.int .i64 0), selv l15 (.bool (zas k d == 0)) (.bool false), .int .i64 n, .int .i64 q, .int .i64 q, y11, y12, y13, y14, y15, y16, y17, y18, y19, y20, y21, y22, y23, y24, y25, y26, y27, y28, y29, y30, y31, y32, y33, y34, sel l0 (.int .i64 q), sel l1 (.int .i64 q), sel l2 (.int .i64 n), sel l3 (.bool true), sel l4 (.bool true), sel l5 (.func (.func 142) #[] #[.pointer (some ⟨bm, 0, none⟩)]), sel l6 (.slice (some ⟨eb, 0, none⟩) n c), sel l7 (.int .i64 q), sel l8 (.pointer (some ⟨eb, q * 3, none⟩)), sel l9 (vEnt k v), sel l10 (vDot d), sel l11 (.int .i64 (zas k d)), sel l12 (.bool (zas k d == 0)), sel l13 (.bool (zas k d == 0))], defers := [] } ∧ za0 (Bs w d V)
def bsfInv (w : World) (A : Option Addr) (B bm n c : Nat) (d : Dot) (y11 y12 y13 y14 y15 y16 y17 y18 y19 y20 y21 y22 y23 y24 y25 y26 y27 y28 y29 y30 y31 y32 y33 y34 : Value) (L : Array Bool) (ac : Act) (V : World) : Prop := ∃ (l0 l1 l2 l3 l4 l5 l6 l7 l8 l9 l10 l11 l12 l13 l14 l15 : Bool), L = #[l0, l1, l2, l3, l4, l5, l6, l7, l8, l9, l10, l11, l12, l13, l14, l15] ∧ ac = { tmps := #[.slice A n c, vDot d, .func (.func 142) #[] #[.pointer (some ⟨bm, 0, none⟩)], undef, .pointer (some ⟨B, 0, none⟩), undef, selv l14 (.int .i64 n) (.int .i64 0), selv l15 (.bool false) (.bool false), .int .i64 n, .int .i64 n, .int .i64 n, y11, y12, y13, y14, y15, y16, y17, y18, y19, y20, y21, y22, y23, y24, y25, y26, y27, y28, y29, y30, y31, y32, y33, y34, sel l0 (.int .i64 n), sel l1 (.int .i64 n), sel l2 (.int .i64 n), sel l3 (.bool false), sel l4 (.bool false), sel l5 (undef), sel l6 (undef), sel l7 (undef), sel l8 (undef), sel l9 (undef), sel l10 (undef), sel l11 (undef), sel l12 (undef), sel l13 (.bool false)], defers := [] } ∧ za0 (Bs w d V)
set_option maxHeartbeats 2000000 in
set_option maxRecDepth 100000 in
theorem bsearch_call (ks : List Dot) (vs : List Value) (A : Option Addr) (n c : Nat) (d : Dot) (bm mp : Nat) (sl : Value) (w : World) (hs : incB ks = true) (he : Ents w A n ks vs) (hbm : w.heap[bm]? = some (.cells #[.pointer (some ⟨mp, 0, none⟩)] 143 (0, 0))) (hmp : w.heap[mp]? = some (.cells #[cmpV, sl] 173 (0, 0))) :
  Calls Tryz.prog 141 #[.slice A n c, vDot d, .func (.func 142) #[] #[.pointer (some ⟨bm, 0, none⟩)]] w fun e w' => e = .returned (.tuple #[.int .i64 (posK ks d), .bool (hasK ks d)]) ∧ Below w.heap.size w w' := by
 have HE := za0.mk he
 have HBM := za0.mk hbm
 have HMP := za0.mk hmp
 have HS := za0.mk hs
 have hn := he.small
 have HQN : za0 (posK ks d ≤ n) := ⟨by rw [← he.kl]; exact posK_le ks d⟩
 clear he hbm hmp hs
 obtain ⟨q, HQ⟩ : ∃ q, za0 (posK ks d = q) := ⟨_, ⟨rfl⟩⟩
 obtain ⟨hf, HHF⟩ : ∃ hf, za0 (hasK ks d = hf) := ⟨_, ⟨rfl⟩⟩
 rw [HQ.out, HHF.out]
 rw [HQ.out] at HQN
 have HB0 : za0 (Bs w d (w.alloc (.cells #[.int .i64 d.f0, .int .i64 d.f1] 25 (0, 0)))) := ⟨(Gr.alloc w _).below, zal _ _⟩
 go_enter Tryz.func141, Tryz.ntmps141
 go_wp2
 go_loopw [9, 10] (fun i j wr => ∃ i' j' : Nat, i' ≤ q ∧ q ≤ j' ∧ j' ≤ n ∧ i = .int .i64 i' ∧ j = .int .i64 j' ∧ za0 (Bs w d wr)) (fun i j _ => (intOf j - intOf i).toNat)
 case atStart => exact ⟨0, n, Nat.zero_le _, HQN.out, Nat.le_refl _, rfl, rfl, HB0⟩
 case round =>
  obtain ⟨i, j, hi, hj, hjn, rfl, rfl, HB⟩ := hrel
  clear HB0
  by_cases hlt : i < j
  ·
   have hlb : decide ((i : Int) < (j : Int)) = true := decide_eq_true (by omega)
   obtain ⟨h, Hh⟩ : ∃ h : Nat, h = (i + j) / 2 := ⟨_, rfl⟩
   have hm : ((i : Int) + (j : Int)) / 2 = (h : Int) := by omega
   have HH : za0 (h < n) := ⟨by omega⟩
   have HIJ : za0 (i ≤ h ∧ h < j) := ⟨by omega⟩
   clear Hh
   obtain ⟨k, v, eb, hk, hvk, hv1, rfl, c0, c1, c2⟩ := HE.out.get HH.out
   have HC := za0.mk (And.intro c0 (And.intro c1 c2))
   have HV := za0.mk hv1
   have HL : za0 (dotLt k d = true ↔ h < q) := ⟨by rw [← HQ.out]; exact posK_iff HS.out d hk⟩
   clear c0 c1 c2 hk hvk hv1
   go_wp2_with fail
   refine AnyOrder.wp_region (by kernel_rfl) (bsrInv w w.heap.size bm eb n c d i j h k v (.slice (some ⟨eb, 0, none⟩) n c) (.int .i64 n) (.int .i64 n) (.int .i64 i) (.int .i64 j) (.bool true) (.int .i64 i) (.int .i64 j) (.int .i64 ((i : Int) + (j : Int))) (.int .u64 ((i : Int) + (j : Int))) (.int .u64 h) (.int .i64 h) u24 u25 u26 u27 u28 u29 u30 u31 u32 u33 u34) ?start ?step ?last
   case start => exact ⟨false, false, false, false, false, false, false, false, rfl, rfl, ⟨HB.out.drew⟩⟩
   case step =>
    rintro L ac V i ⟨l0, l1, l2, l3, l4, l5, l6, l7, rfl, rfl, HF⟩ hi K hK
    rcases AnyOrder.up hi [0, 1, 2, 7, 3, 4, 5, 6] rfl with rfl | rfl | rfl | rfl | rfl | rfl | rfl | rfl
    all_goals
     replace hi := AnyOrder.first hi rfl
     repeat (obtain ⟨ha, hi⟩ := hi; first | obtain rfl := ha | clear ha)
     clear hi
     try simp only [sel_true, selv_true] at hK ⊢
    iterate 4
     ·
      refine AnyOrder.wpOp_go rfl (by rfl) ?_
      go_wp2_with fail
      exact ⟨_, _, _, _, _, _, _, _, rfl, rfl, HF⟩
    ·
     have hh := HH.out
     refine AnyOrder.wpOp_go rfl (by rfl) ?_
     go_wp2_with fail
     exact ⟨_, _, _, _, _, _, _, _, rfl, rfl, HF⟩
    ·
     obtain ⟨q0, q1, q2⟩ := HC.out
     have e0 : V.cell? ⟨eb, h * 3, none⟩ = _ := zaf HF.out.below q0
     have e1 : V.cell? ⟨eb, h * 3 + 1, none⟩ = _ := zaf HF.out.below q1
     have e2 : V.cell? ⟨eb, h * 3 + 2, none⟩ = _ := zaf HF.out.below q2
     have hv := HV.out
     clear q0 q1 q2
     refine AnyOrder.wpOp_go rfl (by rfl) ?_
     go_wp2_with fail
     exact ⟨_, _, _, _, _, _, _, _, rfl, rfl, HF⟩
    ·
     have d0 : V.cell? ⟨w.heap.size, 0, none⟩ = _ := (za4 HF.out.box 0).trans rfl
     have d1 : V.cell? ⟨w.heap.size, 1, none⟩ = _ := (za4 HF.out.box 1).trans rfl
     refine AnyOrder.wpOp_go rfl (by rfl) ?_
     go_wp2_with fail
     exact ⟨_, _, _, _, _, _, _, _, rfl, rfl, HF⟩
    ·
     refine AnyOrder.wpOp_go rfl (by rfl) ?_
     go_wp2_with fail
     refine (find1_call k v HV.out d bm mp sl V (za7 HBM.out HF.out.below) (za7 HMP.out HF.out.below)).mono ?_
     rintro e V' ⟨rfl, hb⟩
     exact hK _ _ ⟨_, _, _, _, _, _, _, _, rfl, rfl, ⟨HF.out.more hb.below⟩⟩
   case last =>
    rintro L ac V ⟨l0, l1, l2, l3, l4, l5, l6, l7, rfl, rfl, HF⟩ hr
    obtain ⟨rfl, rfl, rfl, rfl, rfl, rfl, rfl, rfl, -⟩ := AnyOrder.alls rfl (by kernel_rfl) hr
    clear hr
    simp only [sel_true, selv_true]
    clear hm
    rw [dotCmp_lt]
    cases hd : dotLt k d with
    | true =>
     have hw1 : wrap64 ((h : Int) + 1) = ((h + 1 : Nat) : Int) := by unfold wrap64; have := HH.out; omega
     have h2 := HL.out.1 hd
     have HIJ2 := HIJ.out
     clear hd
     go_wp2_with fail
     refine ⟨⟨h + 1, j, by omega, hj, hjn, by (first | rfl | (rw [hw1])), rfl, HF⟩, ?_⟩
     simp [intOf]; omega
    | false =>
     have h2 : ¬ h < q := fun e => by have := HL.out.2 e; rw [hd] at this; cases this
     have HIJ2 := HIJ.out
     clear hd
     go_wp2_with fail
     refine ⟨⟨i, h, hi, by omega, by omega, rfl, rfl, HF⟩, ?_⟩
     simp [intOf]; omega
  ·
   obtain rfl : q = i := by omega
   obtain rfl : q = j := by omega
   have hlb : decide ((q : Int) < (q : Int)) = false := decide_eq_false (by omega)
   by_cases hq : q < n
   ·
    have HH := za0.mk hq
    obtain ⟨k, v, eb, hk, hvk, hv1, rfl, c0, c1, c2⟩ := HE.out.get HH.out
    have HC := za0.mk (And.intro c0 (And.intro c1 c2))
    have HV := za0.mk hv1
    have HR : za0 (hf = (zas k d == 0)) := ⟨by rw [← HHF.out, hasK, HQ.out, hk, dotCmp_eq]; simp⟩
    clear c0 c1 c2 hk hvk hv1
    go_wp2_with fail
    refine AnyOrder.wp_region (by kernel_rfl) (bstInv w w.heap.size bm eb n c d q k v u11 (.slice (some ⟨eb, 0, none⟩) n c) (.int .i64 n) (.int .i64 n) (.int .i64 q) (.int .i64 q) (.bool false) u18 u19 u20 u21 u22 u23 u24 u25 u26 u27 u28 u29 u30 u31 u32 u33 u34) ?start ?step ?last
    case start => exact ⟨false, false, false, false, false, false, false, false, false, false, false, false, false, false, false, false, rfl, rfl, ⟨HB.out.drew⟩⟩
    case step =>
     rintro L ac V i ⟨l0, l1, l2, l3, l4, l5, l6, l7, l8, l9, l10, l11, l12, l13, l14, l15, rfl, rfl, HF⟩ hi K hK
     rcases AnyOrder.up hi [0, 1, 2, 4, 5, 6, 7, 12, 13, 14, 15, 3, 8, 9, 10, 11] rfl with rfl | rfl | rfl | rfl | rfl | rfl | rfl | rfl | rfl | rfl | rfl | rfl | rfl | rfl | rfl | rfl
     all_goals
      replace hi := AnyOrder.first hi rfl
      repeat (obtain ⟨ha, hi⟩ := hi; first | obtain rfl := ha | clear ha)
      clear hi
      try simp only [sel_true, selv_true] at hK ⊢
     iterate 11
      ·
       refine AnyOrder.wpOp_go rfl (by rfl) ?_
       go_wp2_with fail
       exact ⟨_, _, _, _, _, _, _, _, _, _, _, _, _, _, _, _, rfl, rfl, HF⟩
     ·
      have hh : decide ((q : Int) < (n : Int)) = true := decide_eq_true (by have := HH.out; omega)
      refine AnyOrder.wpOp_go rfl (by rfl) ?_
      go_wp2_with fail
      exact ⟨_, _, _, _, _, _, _, _, _, _, _, _, _, _, _, _, rfl, rfl, HF⟩
     ·
      have hh := HH.out
      refine AnyOrder.wpOp_go rfl (by rfl) ?_
      go_wp2_with fail
      exact ⟨_, _, _, _, _, _, _, _, _, _, _, _, _, _, _, _, rfl, rfl, HF⟩
     ·
      obtain ⟨q0, q1, q2⟩ := HC.out
      have e0 : V.cell? ⟨eb, q * 3, none⟩ = _ := zaf HF.out.below q0
      have e1 : V.cell? ⟨eb, q * 3 + 1, none⟩ = _ := zaf HF.out.below q1
      have e2 : V.cell? ⟨eb, q * 3 + 2, none⟩ = _ := zaf HF.out.below q2
      have hv := HV.out
      clear q0 q1 q2
      refine AnyOrder.wpOp_go rfl (by rfl) ?_
      go_wp2_with fail
      exact ⟨_, _, _, _, _, _, _, _, _, _, _, _, _, _, _, _, rfl, rfl, HF⟩
     ·
      have d0 : V.cell? ⟨w.heap.size, 0, none⟩ = _ := (za4 HF.out.box 0).trans rfl
      have d1 : V.cell? ⟨w.heap.size, 1, none⟩ = _ := (za4 HF.out.box 1).trans rfl
      refine AnyOrder.wpOp_go rfl (by rfl) ?_
      go_wp2_with fail
      exact ⟨_, _, _, _, _, _, _, _, _, _, _, _, _, _, _, _, rfl, rfl, HF⟩
     ·
      refine AnyOrder.wpOp_go rfl (by rfl) ?_
      go_wp2_with fail
      refine (find1_call k v HV.out d bm mp sl V (za7 HBM.out HF.out.below) (za7 HMP.out HF.out.below)).mono ?_
      rintro e V' ⟨rfl, hb⟩
      exact hK _ _ ⟨_, _, _, _, _, _, _, _, _, _, _, _, _, _, _, _, rfl, rfl, ⟨HF.out.more hb.below⟩⟩
    case last =>
     rintro L ac V ⟨l0, l1, l2, l3, l4, l5, l6, l7, l8, l9, l10, l11, l12, l13, l14, l15, rfl, rfl, HF⟩ hr
     obtain ⟨rfl, rfl, rfl, rfl, rfl, rfl, rfl, rfl, rfl, rfl, rfl, rfl, rfl, rfl, rfl, rfl, -⟩ := AnyOrder.alls rfl (by kernel_rfl) hr
     clear hr
     simp only [sel_true, selv_true]
     go_wp2
     refine bodyPost_ret (results_tmp2 rfl _ _ _) rfl ?_
     exact ⟨by rw [HR.out]; rfl, HF.out.below⟩
   ·
    obtain rfl : n = q := by omega
    have HR : za0 (hf = false) := ⟨by rw [← HHF.out, hasK, HQ.out, List.getElem?_eq_none (by rw [HE.out.kl]; exact Nat.le_refl _)]; rfl⟩
    go_wp2_with fail
    refine AnyOrder.wp_region (by kernel_rfl) (bsfInv w A w.heap.size bm n c d u11 (.slice A n c) (.int .i64 n) (.int .i64 n) (.int .i64 n) (.int .i64 n) (.bool false) u18 u19 u20 u21 u22 u23 u24 u25 u26 u27 u28 u29 u30 u31 u32 u33 u34) ?start ?step ?last
    case start => exact ⟨false, false, false, false, false, false, false, false, false, false, false, false, false, false, false, false, rfl, rfl, ⟨HB.out.drew⟩⟩
    case step =>
     rintro L ac V i ⟨l0, l1, l2, l3, l4, l5, l6, l7, l8, l9, l10, l11, l12, l13, l14, l15, rfl, rfl, HF⟩ hi K hK
     rcases AnyOrder.up hi [0, 1, 2, 4, 13, 14, 15, 3, 5, 6, 7, 8, 9, 10, 11, 12] rfl with rfl | rfl | rfl | rfl | rfl | rfl | rfl | rfl | rfl | rfl | rfl | rfl | rfl | rfl | rfl | rfl
     all_goals
      replace hi := AnyOrder.first hi rfl
      repeat (obtain ⟨ha, hi⟩ := hi; first | obtain rfl := ha | clear ha)
      clear hi
      try simp only [sel_true, selv_true] at hK ⊢
     iterate 7
      ·
       refine AnyOrder.wpOp_go rfl (by rfl) ?_
       go_wp2_with fail
       exact ⟨_, _, _, _, _, _, _, _, _, _, _, _, _, _, _, _, rfl, rfl, HF⟩
     ·
      have hh : decide ((n : Int) < (n : Int)) = false := decide_eq_false (by omega)
      refine AnyOrder.wpOp_go rfl (by rfl) ?_
      go_wp2_with fail
      exact ⟨_, _, _, _, _, _, _, _, _, _, _, _, _, _, _, _, rfl, rfl, HF⟩
     iterate 8
      ·
       refine AnyOrder.wpOp_out rfl (by rfl) ?_
       exact hK _ _ ⟨_, _, _, _, _, _, _, _, _, _, _, _, _, _, _, _, rfl, rfl, HF⟩
    case last =>
     rintro L ac V ⟨l0, l1, l2, l3, l4, l5, l6, l7, l8, l9, l10, l11, l12, l13, l14, l15, rfl, rfl, HF⟩ hr
     obtain ⟨rfl, rfl, rfl, rfl, rfl, rfl, rfl, rfl, rfl, rfl, rfl, rfl, rfl, rfl, rfl, rfl, -⟩ := AnyOrder.alls rfl (by kernel_rfl) hr
     clear hr
     simp only [sel_true, selv_true]
     go_wp2
     refine bodyPost_ret (results_tmp2 rfl _ _ _) rfl ?_
     exact ⟨by rw [HR.out]; rfl, HF.out.below⟩
theorem eql_func_nil (W : World) : (binOp .eql 78 cmpV .nilFunc).run Tryz.prog W = .ok (.bool false) W := by
 have h : ∀ d : Nat, (Op.equalIn (d + 1) 78 cmpV .nilFunc).run Tryz.prog W = .ok false W := fun d => by
  simp [Op.equalIn, run_underlying Tryz.underlying78]
 simp only [binOp]
 simp [Op.equal, Op.maxDepth, h 9999]
set_option maxRecDepth 100000 in
theorem zero_call (mp : Nat) (sl : Value) (w : World) (hmp : w.heap[mp]? = some (.cells #[cmpV, sl] 173 (0, 0))) : Calls Tryz.prog 136 #[.pointer (some ⟨mp, 0, none⟩)] w fun e w' => e = .returned (.bool false) ∧ w' = w := by
 have c0 : w.cell? ⟨mp, 0, none⟩ = _ := (za4 hmp 0).trans rfl
 have hq := eql_func_nil
 clear hmp
 go_enter Tryz.func136, Tryz.ntmps136
 go_wp2
 go_ret
 exact ⟨rfl, rfl⟩
structure Fnd (W0 : World) (mp bm B : Nat) (A : Option Addr) (n c : Nat) (ks : List Dot) (vs : List Value) (d : Dot) (V : World) : Prop where
 below : Below W0.heap.size W0 V
 map : W0.heap[mp]? = some (.cells #[cmpV, .slice A n c] 173 (0, 0))
 box : W0.heap[bm]? = some (.cells #[.pointer (some ⟨mp, 0, none⟩)] 143 (0, 0))
 key : W0.heap[B]? = some (.cells #[.int .i64 d.f0, .int .i64 d.f1] 25 (0, 0))
 ents : Ents W0 A n ks vs
theorem Fnd.more {W0 V V' : World} {mp bm B : Nat} {A : Option Addr} {n c : Nat} {ks : List Dot} {vs : List Value} {d : Dot} (h : Fnd W0 mp bm B A n c ks vs d V) (hb : Below V.heap.size V V') : Fnd W0 mp bm B A n c ks vs d V' := ⟨za5 h.below hb, h.map, h.box, h.key, h.ents⟩
def findInv (W0 : World) (mp bm B : Nat) (A : Option Addr) (n c : Nat) (ks : List Dot) (vs : List Value) (d : Dot) (L : Array Bool) (ac : Act) (V : World) : Prop := ∃ (l0 l1 l2 l3 l4 l5 l6 l7 l8 l9 l10 : Bool), L = #[l0, l1, l2, l3, l4, l5, l6, l7, l8, l9, l10] ∧ ac = { tmps := #[.pointer (some ⟨mp, 0, none⟩), vDot d, .pointer (some ⟨bm, 0, none⟩), .pointer (some ⟨B, 0, none⟩), selv l9 (.int .i64 (posK ks d)) (.int .i64 0), selv l10 (.bool (hasK ks d)) (.bool false), .pointer (some ⟨mp, 0, none⟩), .bool false, sel l0 (.pointer (some ⟨mp, 0, none⟩)), sel l1 (.pointer (some ⟨mp, 0, none⟩)), sel l2 (.pointer (some ⟨mp, 1, none⟩)), sel l3 (.slice A n c), sel l4 (vDot d), sel l5 (.func (.func 142) #[] #[.pointer (some ⟨bm, 0, none⟩)]), sel l6 (.tuple #[.int .i64 (posK ks d), .bool (hasK ks d)]), sel l7 (.int .i64 (posK ks d)), sel l8 (.bool (hasK ks d))], defers := [] } ∧ za0 (Fnd W0 mp bm B A n c ks vs d V)
set_option maxHeartbeats 1000000 in
set_option maxRecDepth 100000 in
theorem find_call (mp : Nat) (ks : List Dot) (vs : List Value) (A : Option Addr) (n c : Nat) (d : Dot) (w : World) (hs : incB ks = true) (he : Ents w A n ks vs) (hmp : w.heap[mp]? = some (.cells #[cmpV, .slice A n c] 173 (0, 0))) :
  Calls Tryz.prog 135 #[.pointer (some ⟨mp, 0, none⟩), vDot d] w fun e w' => e = .returned (.tuple #[.int .i64 (posK ks d), .bool (hasK ks d)]) ∧ Below w.heap.size w w' := by
 have HS := za0.mk hs
 have HF0 : za0 (Fnd ((w.alloc (.cells #[.pointer (some ⟨mp, 0, none⟩)] 143 (0, 0))).alloc (.cells #[.int .i64 d.f0, .int .i64 d.f1] 25 (0, 0))) mp w.heap.size (w.heap.size + 1) A n c ks vs d ((w.alloc (.cells #[.pointer (some ⟨mp, 0, none⟩)] 143 (0, 0))).alloc (.cells #[.int .i64 d.f0, .int .i64 d.f1] 25 (0, 0)))) := ⟨⟨Below.refl _ _, zad (zad hmp _) _, zad (zal _ _) _, by have := zal (w.alloc (.cells #[.pointer (some ⟨mp, 0, none⟩)] 143 (0, 0))) (.cells #[.int .i64 d.f0, .int .i64 d.f1] 25 (0, 0)); rwa [World.size_alloc] at this, he.below (((Gr.alloc w _).trans (Gr.alloc _ _)).below)⟩⟩
 have HW := za0.mk ((Gr.alloc w (.cells #[.pointer (some ⟨mp, 0, none⟩)] 143 (0, 0))).trans (Gr.alloc _ (.cells #[.int .i64 d.f0, .int .i64 d.f1] 25 (0, 0)))).below
 clear hs he hmp
 go_enter Tryz.func135, Tryz.ntmps135
 go_wp2_with fail
 refine (zero_call mp _ _ HF0.out.map).mono ?_
 rintro e w1 ⟨rfl, rfl⟩
 go_wp2_with fail
 refine AnyOrder.wp_region (by kernel_rfl) (findInv ((w.alloc (.cells #[.pointer (some ⟨mp, 0, none⟩)] 143 (0, 0))).alloc (.cells #[.int .i64 d.f0, .int .i64 d.f1] 25 (0, 0))) mp w.heap.size (w.heap.size + 1) A n c ks vs d) ?start ?step ?last
 case start => exact ⟨false, false, false, false, false, false, false, false, false, false, false, rfl, rfl, ⟨HF0.out.more (Gr.drew _).below⟩⟩
 case step =>
  rintro L ac V i ⟨l0, l1, l2, l3, l4, l5, l6, l7, l8, l9, l10, rfl, rfl, HF⟩ hi K hK
  rcases AnyOrder.up hi [0, 1, 2, 5, 7, 8, 9, 10, 3, 4, 6] rfl with rfl | rfl | rfl | rfl | rfl | rfl | rfl | rfl | rfl | rfl | rfl
  all_goals
   replace hi := AnyOrder.first hi rfl
   repeat (obtain ⟨ha, hi⟩ := hi; first | obtain rfl := ha | clear ha)
   clear hi
   try simp only [sel_true, selv_true] at hK ⊢
  ·
   have cb0 : V.cell? ⟨w.heap.size, 0, none⟩ = _ := (za4 (za7 HF.out.box HF.out.below) 0).trans rfl
   refine AnyOrder.wpOp_go rfl (by rfl) ?_
   go_wp2_with fail
   exact ⟨_, _, _, _, _, _, _, _, _, _, _, rfl, rfl, HF⟩
  iterate 7
   ·
    refine AnyOrder.wpOp_go rfl (by rfl) ?_
    go_wp2_with fail
    exact ⟨_, _, _, _, _, _, _, _, _, _, _, rfl, rfl, HF⟩
  ·
   have cm1 : V.cell? ⟨mp, 1, none⟩ = _ := (za4 (za7 HF.out.map HF.out.below) 1).trans rfl
   refine AnyOrder.wpOp_go rfl (by rfl) ?_
   go_wp2_with fail
   exact ⟨_, _, _, _, _, _, _, _, _, _, _, rfl, rfl, HF⟩
  ·
   have ck0 : V.cell? ⟨w.heap.size + 1, 0, none⟩ = _ := (za4 (za7 HF.out.key HF.out.below) 0).trans rfl
   have ck1 : V.cell? ⟨w.heap.size + 1, 1, none⟩ = _ := (za4 (za7 HF.out.key HF.out.below) 1).trans rfl
   refine AnyOrder.wpOp_go rfl (by rfl) ?_
   go_wp2_with fail
   exact ⟨_, _, _, _, _, _, _, _, _, _, _, rfl, rfl, HF⟩
  ·
   refine AnyOrder.wpOp_go rfl (by rfl) ?_
   go_wp2_with fail
   refine (bsearch_call ks vs A n c d w.heap.size mp _ V HS.out (HF.out.ents.below HF.out.below) (za7 HF.out.box HF.out.below) (za7 HF.out.map HF.out.below)).mono ?_
   rintro e V' ⟨rfl, hb⟩
   exact hK _ _ ⟨_, _, _, _, _, _, _, _, _, _, _, rfl, rfl, ⟨HF.out.more hb⟩⟩
 case last =>
  rintro L ac V ⟨l0, l1, l2, l3, l4, l5, l6, l7, l8, l9, l10, rfl, rfl, HF⟩ hr
  obtain ⟨rfl, rfl, rfl, rfl, rfl, rfl, rfl, rfl, rfl, rfl, rfl, -⟩ := AnyOrder.alls rfl (by kernel_rfl) hr
  clear hr
  simp only [sel_true, selv_true]
  go_wp2
  refine bodyPost_ret (results_tmp2 rfl _ _ _) rfl ?_
  exact ⟨rfl, za5 HW.out HF.out.below⟩
def getV (ks : List Dot) (vs : List Value) (d : Dot) : Value := if hasK ks d = true then (vs[posK ks d]?).getD undef else .slice none 0 0
theorem hasK_lt {ks : List Dot} {d : Dot} (h : hasK ks d = true) : posK ks d < ks.length := by
 unfold hasK at h
 exact (List.getElem?_eq_some_iff.1 (of_decide_eq_true h)).1
set_option maxHeartbeats 1000000 in
set_option maxRecDepth 100000 in
theorem get_call (mp : Nat) (ks : List Dot) (vs : List Value) (A : Option Addr) (n c : Nat) (d : Dot) (w : World) (hs : incB ks = true) (he : Ents w A n ks vs) (hmp : w.heap[mp]? = some (.cells #[cmpV, .slice A n c] 173 (0, 0))) :
  Calls Tryz.prog 127 #[.pointer (some ⟨mp, 0, none⟩), vDot d] w fun e w' => e = .returned (.tuple #[getV ks vs d, .bool (hasK ks d)]) ∧ Below w.heap.size w w' := by
 have HS := za0.mk hs
 have hb1 := (Gr.alloc w (.cells #[.int .i64 d.f0, .int .i64 d.f1] 25 (0, 0))).below
 have HE := za0.mk (he.below hb1)
 have HM := za0.mk (za7 hmp hb1)
 have HK : za0 ((w.alloc (.cells #[.int .i64 d.f0, .int .i64 d.f1] 25 (0, 0))).heap[w.heap.size]? = some (.cells #[.int .i64 d.f0, .int .i64 d.f1] 25 (0, 0))) := ⟨zal _ _⟩
 have HB := za0.mk hb1
 have hc0 : (w.alloc (.cells #[.int .i64 d.f0, .int .i64 d.f1] 25 (0, 0))).cell? ⟨w.heap.size, 0, none⟩ = _ := (za4 HK.out 0).trans rfl
 have hc1 : (w.alloc (.cells #[.int .i64 d.f0, .int .i64 d.f1] 25 (0, 0))).cell? ⟨w.heap.size, 1, none⟩ = _ := (za4 HK.out 1).trans rfl
 clear hs he hmp hb1
 obtain ⟨q, HQ⟩ : ∃ q, za0 (posK ks d = q) := ⟨_, ⟨rfl⟩⟩
 obtain ⟨hf, HHF⟩ : ∃ hf, za0 (hasK ks d = hf) := ⟨_, ⟨rfl⟩⟩
 obtain ⟨rv, HRV⟩ : ∃ rv, za0 (getV ks vs d = rv) := ⟨_, ⟨rfl⟩⟩
 rw [HHF.out, HRV.out]
 go_enter Tryz.func127, Tryz.ntmps127
 go_wp2_with fail
 refine (find_call mp ks vs A n c d _ HS.out HE.out HM.out).mono ?_
 rintro e w1 ⟨rfl, hb⟩
 have HE := za0.mk (HE.out.below hb)
 have HM := za0.mk (za7 HM.out hb)
 have HB := za0.mk (za5 HB.out hb)
 rw [HQ.out, HHF.out]
 clear hc0 hc1 hb
 cases hf with
 | false =>
  go_wp2
  refine bodyPost_ret (results_tmp2 rfl _ _ _) rfl ?_
  exact ⟨by rw [← HRV.out, getV, HHF.out]; rfl, HB.out⟩
 | true =>
  have hqn : q < n := by have := hasK_lt HHF.out; rw [HQ.out, HE.out.kl] at this; exact this
  obtain ⟨k, v, eb, hk, hvk, hv1, rfl, c0, c1, c2⟩ := HE.out.get hqn
  have hm1 : w1.cell? ⟨mp, 1, none⟩ = _ := (za4 HM.out 1).trans rfl
  have HV : za0 (getV ks vs d = v) := ⟨by rw [getV, HHF.out, HQ.out, hvk]; rfl⟩
  clear hk hvk
  go_wp2
  refine bodyPost_ret (results_tmp2 rfl _ _ _) rfl ?_
  exact ⟨by rw [← HRV.out, HV.out]; rfl, HB.out⟩
end
end Go.Proofs.YtmbndijbpgobeaaGreat.PWalk
end
