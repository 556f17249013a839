/-
  The law EditPlays of layer 15 holds for all lists of edits. Part 12 of 12.
-/
import Derived.Test.YtmbndijbpgobeaaGreatPK
import Derived.Test.YtmbndijbpgobeaaGreatRows
import Derived.WalkKit
import Derived.ProofKit
import Derived.OpenShut
import Derived.ShutString
import Derived.ChangeOld
import Derived.Below
import Derived.SizedLaws
import Derived.Deep.DeepHandedRow
import Derived.Deep.Slices
import Derived.Lib.SmallJoins
section
namespace Go.Proofs.YtmbndijbpgobeaaGreat.PWalk
open Go.RowKit Go.Proofs.YtmbndijbpgobeaaGreatW.PrintWords Go.Proofs.YtmbndijbpgobeaaGreatW.PrintLast Go.Proofs.YtmbndijbpgobeaaGreatW.PrintMore
attribute [local go_sem] max2_int max_two
set_option linter.unusedVariables false
set_option linter.unusedSimpArgs false
section
mutual
def redpencillaw15_right.l0 : Nat → Int → Int → Int → List Int → Option (Bool)
 | 0, _, _, _, _ => none
 | k + 1, x3, x341000, x341001, x341002 => if x3 < (x341002.length : Int) then (redpencillaw15_right.j1 k x3 (decide (x3 < 6)) x341000 x341001 x341002) else (redpencillaw15_right.j1 k x3 false x341000 x341001 x341002)
def redpencillaw15_right.j1 : Nat → Int → Bool → Int → Int → List Int → Option (Bool)
 | 0, _, _, _, _, _ => none
 | k + 1, x3, x12, x341000, x341001, x341002 => if x12 = true then (if 0 ≤ x3 then (if x3 < (x341002.length : Int) then ((redpencilref14_IsRune.f (rd x341002 x3)).bind fun t342 => (if t342 = true then (redpencillaw15_right.l0 k (wrap64 (x3 + 1)) x341000 x341001 x341002) else (some false))) else (none)) else (none)) else (some (decide ((x341002.length : Int) ≤ 5)))
end
def redpencillaw15_right.f (k : Nat) (a0_0 : Int) (a0_1 : Int) (l0_2 : List Int) : Option (Bool) := redpencillaw15_right.l0 k 0 a0_0 a0_1 l0_2
set_option maxHeartbeats 8000000 in
set_option maxRecDepth 100000 in
theorem redpencillaw15_right.calls (k : Nat) (a0_0 : Int) (a0_1 : Int) (A0_2 : Option Addr) (c0_2 : Nat) (l0_2 : List Int) (r : Bool) (w : World) (hr0_2 : Kd.C (Kd.int .i32) w A0_2 l0_2.length l0_2) (hc0_2 : l0_2.length ≤ c0_2) (h : redpencillaw15_right.f k a0_0 a0_1 l0_2 = some r) :
  Calls Tryz.prog 33 #[.agg #[.int .u8 a0_0, .int .u8 a0_1, .slice A0_2 l0_2.length c0_2]] w fun e w' => e = .returned (.bool r) ∧ Below w.heap.size w w' := by
 have hu59 := Tryz.underlying59
 have HR0_2 := za0.mk hr0_2
 have HC0_2 := za0.mk hc0_2
 clear hr0_2 hc0_2
 have HB := za0.mk (Below.refl w.heap.size w)
 have H : (redpencillaw15_right.l0 k 0 a0_0 a0_1 l0_2) = some r := h
 clear h
 have H' := za0.mk H
 clear H
 go_enter Tryz.func33, Tryz.ntmps33
 go_wp2_with (first | ((with_reducible refine zaq (N := 1) rfl ?_); refine zao ?hg (N := 1) ?hd (cs := #[.int .u8 a0_0, .int .u8 a0_1, .slice A0_2 l0_2.length c0_2]) (t := 59) ?hr ?_; (case hd => rfl); (case hg => rfl); (case hr => first | (go_simp; done) | (go_simp; rfl)); intro gb340 hg w2 hbox hb; have n0_ := za0.mk (zaa (by repeat (first | (with_reducible first | exact HB.out | apply za2 | apply za1 | apply za3) | exact HB.out)) hb); have n1_ := za0.mk (hbox); have n2_ := za0.mk ((by rw [hg]; exact (za8 (by repeat (first | (with_reducible first | exact HB.out | apply za2 | apply za1 | apply za3) | exact HB.out))) : w.heap.size ≤ gb340)); have n3_ := za0.mk ((by rw [hg]; exact (za8 (by repeat (first | (with_reducible first | exact HB.out | apply za2 | apply za1 | apply za3) | exact HB.out))) : w.heap.size ≤ gb340)); clear HB; have HB := n0_; have BK340 := n1_; have GW340 := n2_; have GE340 := n3_; clear n0_ n1_ n2_ n3_; clear hb hbox hg))
 go_loopg [3] k (fun kq v3 w' => ∃ (x3_1 : Int), v3 = .int .i64 x3_1 ∧ za0 (redpencillaw15_right.l0 kq x3_1 a0_0 a0_1 l0_2 = some r) ∧ za0 (kq ≤ k) ∧ za0 (w'.heap[gb340]? = some (.cells #[.int .u8 a0_0, .int .u8 a0_1, (.slice A0_2 l0_2.length c0_2)] 59 (0, 0))) ∧ za0 (Below w.heap.size w w'))
 case atStart => exact ⟨(0), (by first | rfl | (simp; done) | (simp [*]; done)), H', ⟨Nat.le_refl _⟩, ⟨by (with_reducible repeat (first | refine zaj ?_ _ | refine zai ?_ | refine zad ?_ _)); exact BK340.out⟩, ⟨by repeat (first | (with_reducible first | exact HB.out | apply za2 | apply za1 | apply za3 | refine zae ?_ GE340.out) | exact HB.out)⟩⟩
 case round =>
  clear H'
  try clear p2
  obtain ⟨x3_1, rfl, HA, HK1, BK340, HB⟩ := hrel
  cases gk with
  | zero => exact absurd HA.out (by simp [redpencillaw15_right.l0])
  | succ k1 =>
   have H := HA.out
   clear HA
   simp only [redpencillaw15_right.l0] at H
   have HC3 := za0.mk H
   clear H
   go_upto_region 2 with (fail)
   go_cut [12] (fun v12 wc => ∃ (kq : Nat) (x12_2 : Bool), v12 = .bool x12_2 ∧ za0 (redpencillaw15_right.j1 kq x3_1 x12_2 a0_0 a0_1 l0_2 = some r) ∧ za0 (kq ≤ k1) ∧ za0 (wc.heap[gb340]? = some (.cells #[.int .u8 a0_0, .int .u8 a0_1, (.slice A0_2 l0_2.length c0_2)] 59 (0, 0))) ∧ za0 (Below w.heap.size w wc))
   case first =>
    have H := HC3.out
    clear HC3
    by_cases c4 : x3_1 < (l0_2.length : Int)
    ·
     rw [if_pos c4] at H
     have c4b0 : decide (x3_1 < (l0_2.length : Int)) = true := decide_eq_true c4
     clear c4
     (first | rw [c4b0] | (simp only [i64_w, i32_w]; rw [c4b0]) | rw [c4b1] | skip)
     have H' := za0.mk H
     clear H
     have hcz5_0 : wr.cell? ⟨gb340, 0, none⟩ = some (.int .u8 a0_0) := (za4 BK340.out 0).trans rfl
     have hcz5_1 : wr.cell? ⟨gb340, 1, none⟩ = some (.int .u8 a0_1) := (za4 BK340.out 1).trans rfl
     have hcz5_2 : wr.cell? ⟨gb340, 2, none⟩ = some (.slice A0_2 l0_2.length c0_2) := (za4 BK340.out 2).trans rfl
     have hfz5_0 := za6 BK340.out 0
     have hfz5_1 := za6 BK340.out 1
     have hfz5_2 := za6 BK340.out 2
     go_wp2
     go_meet
     case rel => exact ⟨_, (decide (x3_1 < 6)), (by first | rfl | (simp; done) | (simp [*]; done)), H', ⟨by have := HK1.out; first | omega | exact Nat.le_refl _⟩, ⟨by (with_reducible repeat (first | refine zaj ?_ _ | refine zai ?_ | refine zad ?_ _)); exact BK340.out⟩, ⟨by repeat (first | (with_reducible first | exact HB.out | apply za2 | apply za1 | apply za3 | refine zae ?_ GE340.out) | exact HB.out)⟩⟩
    ·
     rw [if_neg c4] at H
     have c4b0 : decide (x3_1 < (l0_2.length : Int)) = false := decide_eq_false c4
     clear c4
     (first | rw [c4b0] | (simp only [i64_w, i32_w]; rw [c4b0]) | rw [c4b1] | skip)
     have H' := za0.mk H
     clear H
     have hcz6_0 : wr.cell? ⟨gb340, 0, none⟩ = some (.int .u8 a0_0) := (za4 BK340.out 0).trans rfl
     have hcz6_1 : wr.cell? ⟨gb340, 1, none⟩ = some (.int .u8 a0_1) := (za4 BK340.out 1).trans rfl
     have hcz6_2 : wr.cell? ⟨gb340, 2, none⟩ = some (.slice A0_2 l0_2.length c0_2) := (za4 BK340.out 2).trans rfl
     have hfz6_0 := za6 BK340.out 0
     have hfz6_1 := za6 BK340.out 1
     have hfz6_2 := za6 BK340.out 2
     go_wp2
     go_meet
     case rel => exact ⟨_, (false), (by first | rfl | (simp; done) | (simp [*]; done)), H', ⟨by have := HK1.out; first | omega | exact Nat.le_refl _⟩, ⟨by (with_reducible repeat (first | refine zaj ?_ _ | refine zai ?_ | refine zad ?_ _)); exact BK340.out⟩, ⟨by repeat (first | (with_reducible first | exact HB.out | apply za2 | apply za1 | apply za3 | refine zae ?_ GE340.out) | exact HB.out)⟩⟩
   case rest =>
    clear HC3
    try clear p2
    try clear c3
    try clear c4
    try clear c4b0
    try clear hcz5_0
    try clear hcz5_1
    try clear hcz5_2
    try clear hcz6_0
    try clear hcz6_1
    try clear hcz6_2
    try clear hfz5_0
    try clear hfz5_1
    try clear hfz5_2
    try clear hfz6_0
    try clear hfz6_1
    try clear hfz6_2
    try clear p2
    obtain ⟨kq, x12_2, rfl, HA, HJ2, BK340, HB⟩ := hcut
    cases kq with
    | zero => exact absurd HA.out (by simp [redpencillaw15_right.j1])
    | succ kj2 =>
     have H := HA.out
     clear HA
     simp only [redpencillaw15_right.j1] at H
     by_cases c7 : x12_2 = true
     ·
      subst c7
      have H1 : (if 0 ≤ x3_1 then (if x3_1 < (l0_2.length : Int) then ((redpencilref14_IsRune.f (rd l0_2 x3_1)).bind fun t342 => (if t342 = true then (redpencillaw15_right.l0 kj2 (wrap64 (x3_1 + 1)) a0_0 a0_1 l0_2) else (some false))) else (none)) else (none)) = some r := by rw [if_pos rfl] at H; exact H
      clear H
      have H := H1
      clear H1
      by_cases c8 : 0 ≤ x3_1
      ·
       rw [if_pos c8] at H
       have c8b0 : decide (0 ≤ x3_1) = true := decide_eq_true c8
       clear c8
       by_cases c9 : x3_1 < (l0_2.length : Int)
       ·
        rw [if_pos c9] at H
        have c9b0 : decide (x3_1 < (l0_2.length : Int)) = true := decide_eq_true c9
        clear c9
        replace H := Option.bind_eq_some_iff.mp H
        obtain ⟨t342, A100, H⟩ := H
        replace H : (if t342 = true then (redpencillaw15_right.l0 kj2 (wrap64 (x3_1 + 1)) a0_0 a0_1 l0_2) else (some false)) = some r := H
        have A10 := za0.mk A100
        clear A100
        by_cases c11 : t342 = true
        ·
         subst c11
         have H1 : (redpencillaw15_right.l0 kj2 (wrap64 (x3_1 + 1)) a0_0 a0_1 l0_2) = some r := by rw [if_pos rfl] at H; exact H
         clear H
         have H := H1
         clear H1
         have H' := za0.mk H
         clear H
         have hcz12_0 : wc.cell? ⟨gb340, 0, none⟩ = some (.int .u8 a0_0) := (za4 BK340.out 0).trans rfl
         have hcz12_1 : wc.cell? ⟨gb340, 1, none⟩ = some (.int .u8 a0_1) := (za4 BK340.out 1).trans rfl
         have hcz12_2 : wc.cell? ⟨gb340, 2, none⟩ = some (.slice A0_2 l0_2.length c0_2) := (za4 BK340.out 2).trans rfl
         have hfz12_0 := za6 BK340.out 0
         have hfz12_1 := za6 BK340.out 1
         have hfz12_2 := za6 BK340.out 2
         have p341 : 0 ≤ (x3_1 : Int) := of_decide_eq_true (by first | (with_reducible assumption) | assumption)
         have q341 : x3_1 < (l0_2.length : Int) := of_decide_eq_true (by first | (with_reducible assumption) | assumption)
         obtain ⟨ad341, e341, hx341_0⟩ := Kd.at_int HR0_2.out x3_1 p341 q341
         cases e341
         replace hx341_0 := (HB.out.cell (World.block_lt_of_cell? w _ hx341_0)).trans hx341_0
         replace p341 := eq_true p341
         replace q341 := eq_true q341
         go_wp2_with (first | ((with_reducible refine zah (f := 31) rfl ?_); refine zar (some 20) rfl rfl Tryz.func31 (by kernel_rfl) rfl #[.int .i32 (rd l0_2 x3_1)] rfl (by (try simp only [List.map_toArray, List.map_cons, List.map_nil]); first | done | rfl | (simp only [List.length_drop, List.length_take]; rfl)) ?_; (with_reducible refine (redpencilref14_IsRune.calls (rd l0_2 x3_1) true _ A10.out).mono ?_); rintro e w' ⟨rfl, ⟨nd, rfl⟩⟩; refine ⟨_, rfl, ?_⟩))
         go_roundg kj2
         case measure => have := HK1.out; have := HJ2.out; omega
         case rel => exact ⟨(wrap64 (x3_1 + 1)), (by first | rfl | (simp; done) | (simp [*]; done)), H', ⟨by have := HK1.out; have := HJ2.out; omega⟩, ⟨by (with_reducible repeat (first | refine zaj ?_ _ | refine zai ?_ | refine zad ?_ _)); exact BK340.out⟩, ⟨by repeat (first | (with_reducible first | exact HB.out | apply za2 | apply za1 | apply za3 | refine zae ?_ GE340.out) | exact HB.out)⟩⟩
        ·
         replace c11 := Bool.eq_false_iff.mpr c11
         subst c11
         have H1 : (some false) = some r := by rw [if_neg (show ¬ (false = true) by decide)] at H; exact H
         clear H
         have H := H1
         clear H1
         obtain rfl := Option.some.inj H
         have hcz13_0 : wc.cell? ⟨gb340, 0, none⟩ = some (.int .u8 a0_0) := (za4 BK340.out 0).trans rfl
         have hcz13_1 : wc.cell? ⟨gb340, 1, none⟩ = some (.int .u8 a0_1) := (za4 BK340.out 1).trans rfl
         have hcz13_2 : wc.cell? ⟨gb340, 2, none⟩ = some (.slice A0_2 l0_2.length c0_2) := (za4 BK340.out 2).trans rfl
         have hfz13_0 := za6 BK340.out 0
         have hfz13_1 := za6 BK340.out 1
         have hfz13_2 := za6 BK340.out 2
         have p341 : 0 ≤ (x3_1 : Int) := of_decide_eq_true (by first | (with_reducible assumption) | assumption)
         have q341 : x3_1 < (l0_2.length : Int) := of_decide_eq_true (by first | (with_reducible assumption) | assumption)
         obtain ⟨ad341, e341, hx341_0⟩ := Kd.at_int HR0_2.out x3_1 p341 q341
         cases e341
         replace hx341_0 := (HB.out.cell (World.block_lt_of_cell? w _ hx341_0)).trans hx341_0
         replace p341 := eq_true p341
         replace q341 := eq_true q341
         go_wp2_with (first | ((with_reducible refine zah (f := 31) rfl ?_); refine zar (some 20) rfl rfl Tryz.func31 (by kernel_rfl) rfl #[.int .i32 (rd l0_2 x3_1)] rfl (by (try simp only [List.map_toArray, List.map_cons, List.map_nil]); first | done | rfl | (simp only [List.length_drop, List.length_take]; rfl)) ?_; (with_reducible refine (redpencilref14_IsRune.calls (rd l0_2 x3_1) false _ A10.out).mono ?_); rintro e w' ⟨rfl, ⟨nd, rfl⟩⟩; refine ⟨_, rfl, ?_⟩))
         go_ret
         exact ⟨by first | rfl | (simp [zac, zab] <;> rfl) | (simp [*, zac, zab] <;> rfl), by repeat (first | (with_reducible first | exact HB.out | apply za2 | apply za1 | apply za3 | refine zae ?_ GE340.out) | exact HB.out)⟩
       ·
        rw [if_neg c9] at H
        exact absurd H (by simp)
      ·
       rw [if_neg c8] at H
       exact absurd H (by simp)
     ·
      replace c7 := Bool.eq_false_iff.mpr c7
      subst c7
      have H1 : (some (decide ((l0_2.length : Int) ≤ 5))) = some r := by rw [if_neg (show ¬ (false = true) by decide)] at H; exact H
      clear H
      have H := H1
      clear H1
      obtain rfl := Option.some.inj H
      have hcz14_0 : wc.cell? ⟨gb340, 0, none⟩ = some (.int .u8 a0_0) := (za4 BK340.out 0).trans rfl
      have hcz14_1 : wc.cell? ⟨gb340, 1, none⟩ = some (.int .u8 a0_1) := (za4 BK340.out 1).trans rfl
      have hcz14_2 : wc.cell? ⟨gb340, 2, none⟩ = some (.slice A0_2 l0_2.length c0_2) := (za4 BK340.out 2).trans rfl
      have hfz14_0 := za6 BK340.out 0
      have hfz14_1 := za6 BK340.out 1
      have hfz14_2 := za6 BK340.out 2
      go_wp2
      go_ret
      exact ⟨by first | rfl | (simp [zac, zab] <;> rfl) | (simp [*, zac, zab] <;> rfl), by repeat (first | (with_reducible first | exact HB.out | apply za2 | apply za1 | apply za3 | refine zae ?_ GE340.out) | exact HB.out)⟩
end
end Go.Proofs.YtmbndijbpgobeaaGreat.PWalk
end
section
namespace Go.Proofs.YtmbndijbpgobeaaGreat.PWalk
open Go.RowKit Go.Proofs.YtmbndijbpgobeaaGreatW.PrintWords Go.Proofs.YtmbndijbpgobeaaGreatW.PrintLast Go.Proofs.YtmbndijbpgobeaaGreatW.PrintMore
set_option linter.unusedVariables false
set_option linter.unusedSimpArgs false
open Go.Shelf
attribute [local go_sem] Oper.semAt_some
section
def rightB (rs : List Int) : Bool := (rs.take 6).all runeOk && decide (rs.length ≤ 5)
theorem right_from (a b : Int) (rs : List Int) : ∀ (q k i : Nat), i + q = (rs.take 6).length → 2 * q + 2 ≤ k → redpencillaw15_right.l0 k (i : Int) a b rs = some (((rs.take 6).drop i).all runeOk && decide (rs.length ≤ 5)) := by
 intro q
 induction q with
 | zero =>
  intro k i hi hk
  obtain ⟨k, rfl⟩ : ∃ m, k = m + 2 := ⟨k - 2, by omega⟩
  rw [List.length_take] at hi
  have hd : (rs.take 6).drop i = [] := List.drop_eq_nil_of_le (by rw [List.length_take]; omega)
  rw [hd, List.all_nil, Bool.true_and]
  simp only [redpencillaw15_right.l0]
  have e : decide ((rs.length : Int) ≤ 5) = decide (rs.length ≤ 5) := by
   rw [Bool.eq_iff_iff, decide_eq_true_eq, decide_eq_true_eq]; omega
  by_cases h : (i : Int) < (rs.length : Int)
  ·
   rw [if_pos h, decide_eq_false (by omega)]
   simp only [redpencillaw15_right.j1]
   rw [if_neg (by decide), e]
  ·
   rw [if_neg h]
   simp only [redpencillaw15_right.j1]
   rw [if_neg (by decide), e]
 | succ q ih =>
  intro k i hi hk
  obtain ⟨k, rfl⟩ : ∃ m, k = m + 2 := ⟨k - 2, by omega⟩
  have hi2 := hi
  rw [List.length_take] at hi2
  have hlt : i < rs.length := by omega
  simp only [redpencillaw15_right.l0]
  rw [if_pos (by omega), decide_eq_true (by omega)]
  simp only [redpencillaw15_right.j1]
  rw [if_pos trivial, if_pos (by omega), if_pos (by omega), rdI hlt, jrune_ok, Option.bind_some, show wrap64 ((i : Int) + 1) = ((i + 1 : Nat) : Int) by unfold wrap64; omega, ih k (i + 1) (by omega) (by omega)]
  have hlt6 : i < (rs.take 6).length := by omega
  rw [List.drop_eq_getElem_cons hlt6, List.all_cons, List.getElem_take]
  cases runeOk rs[i] <;> simp
theorem right_is (a b : Int) (rs : List Int) : redpencillaw15_right.f 100 a b rs = some (rightB rs) :=
 right_from a b rs (rs.take 6).length 100 0 (Nat.zero_add _) (by rw [List.length_take]; omega)
theorem right_ok {rs : List Int} (h : rightB rs = true) : rs.length ≤ 5 ∧ ∀ r ∈ rs, runeOk r = true := by
 unfold rightB at h
 rw [Bool.and_eq_true, decide_eq_true_eq, List.all_eq_true] at h
 rw [List.take_of_length_le (by omega)] at h
 exact ⟨h.2, h.1⟩
theorem mod_nat {x : Int} {nv : Nat} (hx : 0 ≤ x) : ∃ q : Nat, x % ((nv : Int) + 1) = (q : Int) ∧ q ≤ nv := by
 have h1 := Int.emod_nonneg x (show ((nv : Int) + 1) ≠ 0 by omega)
 have h2 := Int.emod_lt_of_pos x (show (0 : Int) < (nv : Int) + 1 by omega)
 exact ⟨(x % ((nv : Int) + 1)).toNat, by omega, by omega⟩
theorem mod_nat2 {y : Int} {nv a : Nat} (hy : 0 ≤ y) (ha : a ≤ nv) : ∃ q : Nat, y % ((nv : Int) - (a : Int) + 1) = (q : Int) ∧ a + q ≤ nv := by
 have h1 := Int.emod_nonneg y (show ((nv : Int) - (a : Int) + 1) ≠ 0 by omega)
 have h2 := Int.emod_lt_of_pos y (show (0 : Int) < (nv : Int) - (a : Int) + 1 by omega)
 exact ⟨(y % ((nv : Int) - (a : Int) + 1)).toNat, by omega, by omega⟩
end
section
/-- What holds of the state between two edits. -/
structure PlayOk (S : List Node) (p q : Int) (k : Nat) : Prop where
 well : wellB S = true
 len : S.length ≤ 5 * k
 last : lastOf S ≤ 5 * (k : Int)
 own : ∀ x ∈ S, (x.f0.f0 = 1 ∧ x.f0.f1 < p) ∨ (x.f0.f0 = 2 ∧ x.f0.f1 < q)
 pq : 1 ≤ p ∧ p ≤ 5 * (k : Int) + 1 ∧ 1 ≤ q ∧ q ≤ 5 * (k : Int) + 1
theorem play_nil : PlayOk [] 1 1 0 := ⟨rfl, Nat.le_refl _, Int.le_refl _, (fun x hx => by cases hx), by decide⟩
section
variable {S : List Node} {p q : Int} {k : Nat} {a n : Nat} {rs : List Int} (H : PlayOk S p q k) (hk : k ≤ 20) (hs : a + n ≤ (visOf S).length) (hr : ∀ r ∈ rs, runeOk r = true) (hm : rs.length ≤ 5)
include H hk hs hr hm
theorem play_ed {r c : Int} (h : (r = 1 ∧ c = p) ∨ (r = 2 ∧ c = q)) : EdOk S ⟨r, c⟩ a n rs where
 well := H.well
 dot := by
  have := H.pq
  refine decide_eq_true ⟨?_, ?_, ?_, ?_⟩
  ·
   show 1 ≤ r; omega
  ·
   show r ≤ 64; omega
  ·
   show 1 ≤ c; omega
  ·
   show c ≤ 4294967295; omega
 span := hs
 run := hr
 cnt := by have := H.pq; show c + (rs.length : Int) ≤ 4294967296; omega
 tim := by have := H.last; omega
 busy := by
  unfold busyE
  rw [List.any_eq_false]
  intro i hi
  rw [decide_eq_true_eq]
  intro h2
  obtain ⟨x, hx, e⟩ := List.mem_map.1 h2
  have e0 : x.f0.f0 = r := congrArg (fun q : Dot => q.f0) e
  have e1 : x.f0.f1 = c + (i : Int) := congrArg (fun q : Dot => q.f1) e
  have := H.own x hx
  omega
theorem play_next {r c p' q' : Int} (h : (r = 1 ∧ c = p ∧ p' = p + (rs.length : Int) ∧ q' = q) ∨ (r = 2 ∧ c = q ∧ p' = p ∧ q' = q + (rs.length : Int))) : PlayOk (joinJ S (deltaE S ⟨r, c⟩ a n rs)) p' q' (k + 1) := by
 have E : EdOk S ⟨r, c⟩ a n rs := play_ed H hk hs hr hm (by omega)
 have hl := H.last
 have hpq := H.pq
 have hln := H.len
 have hal := E.after_le
 refine ⟨E.after_well, by omega, ?_, fun z hz => ?_, by omega⟩
 ·
  refine fold_le _ _ (by omega) fun z hz => ?_
  rcases E.after_mem.1 hz with ⟨x, hx, rfl⟩ | ⟨j, hj, rfl⟩
  ·
   rw [(deadD_keeps _ x).2.2]
   have := last_of hx
   omega
  ·
   show lastOf S + 1 + (j : Int) ≤ _
   omega
 ·
  rcases E.after_mem.1 hz with ⟨x, hx, rfl⟩ | ⟨j, hj, rfl⟩
  ·
   rw [deadD_dot]
   have := H.own x hx
   omega
  ·
   show ((r = 1 ∧ c + (j : Int) < p') ∨ (r = 2 ∧ c + (j : Int) < q'))
   omega
end
end
section
structure ActN where
 f0 : Int
 f1 : Int
 f2 : (List Int)
def zAct : ActN := ⟨(0 : Int), (0 : Int), ([] : List Int)⟩
def kAct : Kd ActN := Kd.iso (Kd.pair (Kd.int .u8) (Kd.pair (Kd.int .u8) (Kd.slice 21 (Kd.int .i32)))) (fun x : ActN => (x.f0, x.f1, x.f2))
theorem kAct_open {w : World} {x : ActN} {cs : List Value} (h : kAct.K w x cs) : ∃ A2 c2, cs = [.int .u8 x.f0, .int .u8 x.f1, .slice A2 x.f2.length c2] ∧ x.f2.length ≤ c2 ∧ (Kd.int .i32).C w A2 x.f2.length x.f2 := by
 obtain ⟨_, _, rfl, rfl, ⟨_, _, rfl, rfl, ⟨A2, c2, rfl, l2, g2⟩⟩⟩ := h
 exact ⟨A2, c2, rfl, l2, g2⟩
theorem kAct_mk (w : World) (x : ActN) {A2 : Option Addr} {c2 : Nat} (l2 : x.f2.length ≤ c2) (g2 : (Kd.int .i32).C w A2 x.f2.length x.f2) : kAct.K w x [.int .u8 x.f0, .int .u8 x.f1, .slice A2 x.f2.length c2] := ⟨[.int .u8 x.f0], [.int .u8 x.f1, .slice A2 x.f2.length c2], rfl, rfl, ⟨[.int .u8 x.f1], [.slice A2 x.f2.length c2], rfl, rfl, ⟨A2, c2, rfl, l2, g2⟩⟩⟩
def rd_TAct (xs : List ActN) (i : Int) : ActN := xs.getD i.toNat zAct
theorem at_TAct {w : World} {A : Option Addr} {n : Nat} {xs : List ActN} (h : Kd.C kAct w A n xs) (i : Int) (h0 : 0 ≤ i) (h1 : i < n) : ∃ ad A2 c2, A = some ad ∧ w.cell? (ad.add (i.toNat * 3)) = some (.int .u8 (rd_TAct xs i).f0) ∧ w.cell? ⟨(ad.add (i.toNat * 3)).block, (ad.add (i.toNat * 3)).off + 1, none⟩ = some (.int .u8 (rd_TAct xs i).f1) ∧ w.cell? ⟨(ad.add (i.toNat * 3)).block, (ad.add (i.toNat * 3)).off + 2, none⟩ = some (.slice A2 (rd_TAct xs i).f2.length c2) ∧ (rd_TAct xs i).f2.length ≤ c2 ∧ (Kd.int .i32).C w A2 (rd_TAct xs i).f2.length (rd_TAct xs i).f2 := by
 obtain ⟨ad, c, e, _, hK, hc0⟩ := Kd.C_get h zAct i h0 h1
 have hc : ∀ j u, c[j]? = some u → w.cell? (ad.add (i.toNat * 3 + j)) = some u := hc0
 obtain ⟨A2, c2, rfl, l2, g2⟩ := kAct_open hK
 exact ⟨ad, A2, c2, e, hc 0 _ rfl, by rw [← add_field _ _ 1 (by omega)]; exact hc 1 _ rfl, by rw [← add_field _ _ 2 (by omega)]; exact hc 2 _ rfl, l2, g2⟩
abbrev cntO (p q : Int) : Obj := .cells #[.int .i64 p, .int .i64 q] 3 (0, 0)
/-- What has come up where an edit is made. -/
structure PLD (W0 : World) (X : List Node) (l13 l14 l15 l16 l19 l20 : Bool) (va vb : Value) (V : World) : Prop where
 o14 : l14 = true → l13 = true
 o15 : l15 = true → l14 = true
 o16 : l16 = true → l14 = true
 o19 : l19 = true → l15 = true
 o20 : l20 = true → l16 = true
 below : Below W0.heap.size W0 V
 r : l13 = true → RN V W0.heap.size va X
def pl10Inv (W0 : World) (al : Addr) (As A4 : Option Addr) (n c0 ns cs m c4 gc k : Nat) (c x y : Int) (X : List Node) (z1 z2 z6 z7 z8 z9 z10 z11 z12 z13 z14 z15 z16 z17 z18 z19 z20 z21 z22 z23 z24 z25 z26 z27 z28 z29 z30 z31 z32 z33 z34 z35 z36 z37 z38 z39 z40 z41 z42 z43 z44 z45 z46 z47 z48 z49 z50 z51 z52 z53 z54 z55 : Value) (L : Array Bool) (ac : Act) (V : World) : Prop := ∃ (l0 l1 l2 l3 l4 l5 l6 l7 l8 l9 l10 l11 l12 l13 l14 l15 l16 l17 l18 l19 l20 l21 l22 : Bool) (va : Value) (vb : Value), L = #[l0, l1, l2, l3, l4, l5, l6, l7, l8, l9, l10, l11, l12, l13, l14, l15, l16, l17, l18, l19, l20, l21, l22] ∧ ac = { tmps := #[.slice (some al) n c0, z1, z2, .slice As ns cs, .slice (some ⟨gc, 0, none⟩) 2 2, .int .i64 (k : Int), selv l19 (va) (z6), selv l20 (vb) (z7), selv l21 (.int .i64 (c + (m : Int))) (z8), selv l22 (.bool true) (z9), z10, z11, z12, z13, z14, z15, z16, z17, z18, z19, z20, z21, z22, z23, z24, z25, z26, z27, selv l14 (.tuple #[va, vb, .int .i64 (c + (m : Int)), .bool true]) (z28), selv l0 (.slice As ns cs) (z29), selv l1 (.int .i64 (k : Int)) (z30), selv l2 (.int .i64 ((k : Int) % 2)) (z31), selv l3 (.int .i64 (1 + (k : Int) % 2)) (z32), selv l4 (.slice (some ⟨gc, 0, none⟩) 2 2) (z33), selv l5 (.int .i64 (k : Int)) (z34), selv l6 (.int .i64 ((k : Int) % 2)) (z35), selv l7 (.pointer (some ⟨gc, k % 2, none⟩)) (z36), selv l8 (.int .i64 c) (z37), selv l9 (.slice (some al) n c0) (z38), selv l10 (.int .i64 (k : Int)) (z39), selv l11 (.pointer (some (al.add (k * 3)))) (z40), selv l12 (.agg #[.int .u8 x, .int .u8 y, .slice A4 m c4]) (z41), selv l13 (.tuple #[va, vb, .int .i64 (c + (m : Int)), .bool true]) (z42), selv l15 (va) (z43), selv l16 (vb) (z44), selv l17 (.int .i64 (c + (m : Int))) (z45), selv l18 (.bool true) (z46), z47, z48, z49, z50, z51, z52, z53, z54, z55], defers := [] } ∧ za0 (PLD W0 X l13 l14 l15 l16 l19 l20 va vb V)
set_option maxHeartbeats 8000000 in
set_option maxRecDepth 100000 in
theorem EditPlays.walk (A0 : Option Addr) (c0 : Nat) (ll : List ActN) (w : World) (hr0 : Kd.C kAct w A0 ll.length ll) (hc0 : ll.length ≤ c0) (hby : ∀ x ∈ ll, (0 ≤ x.f0 ∧ x.f0 ≤ 255) ∧ (0 ≤ x.f1 ∧ x.f1 ≤ 255)) :
  Calls Tryz.prog 8 #[.slice A0 ll.length c0] w fun e w' => e = .returned (.bool true) ∧ Below w.heap.size w w' := by
 obtain ⟨n, Hn⟩ : ∃ n, za0 (ll.length = n) := ⟨_, ⟨rfl⟩⟩
 have HR := za0.mk hr0
 have HBY := za0.mk hby
 rw [Hn.out] at HR
 rw [Hn.out]
 have hu2 := Tryz.underlying25
 clear hr0 hc0 hby
 go_enter Tryz.func8, Tryz.ntmps8
 by_cases h20 : n ≤ 20
 rotate_left
 ·
  have p1 : (n : Int) > 20 := by omega
  clear h20
  go_wp2_with fail
  refine (known15_call _).mono ?_
  rintro e VK ⟨rfl, hd⟩
  have HB := za0.mk hd
  clear hd
  go_wp2
  go_ret
  exact ⟨rfl, HB.out⟩
 have HN : za0 (n ≤ 20) := ⟨h20⟩
 have p1 : ¬ (n : Int) > 20 := by omega
 clear h20
 obtain ⟨gc, Hgc⟩ : ∃ g, za0 (w.heap.size = g) := ⟨_, ⟨rfl⟩⟩
 have HCN := za0.mk (zal w (cntO 1 1))
 have HB := za0.mk (za2 (Below.refl _ w) (cntO 1 1))
 go_wp2_with fail
 clear p1
 rw [Hgc.out] at HCN ⊢
 go_loopw [3, 5] (fun s3 s5 wr => ∃ (k : Nat) (p q : Int) (As : Option Addr) (ns cs : Nat) (S : List Node), s3 = .slice As ns cs ∧ s5 = .int .i64 k ∧ k ≤ n ∧ za0 (RN wr w.heap.size (.slice As ns cs) S) ∧ za0 (PlayOk S p q k) ∧ za0 (wr.heap[gc]? = some (cntO p q)) ∧ za0 (Below w.heap.size w wr)) (fun _ i _ => n - (intOf i).toNat)
 case atStart => exact ⟨0, 1, 1, none, 0, 0, [], rfl, rfl, Nat.zero_le _, ⟨Kd.R_nil _ _ _ _ _⟩, ⟨play_nil⟩, HCN, HB⟩
 case round =>
  obtain ⟨k, p, q, As, ns, cs, S, rfl, rfl, hk, HO, HP, HCN, HB⟩ := hrel
  by_cases hlt : k < n
  ·
   have hgt := at_TAct HR.out (k : Int) (by omega) (by omega)
   obtain ⟨a, Ha⟩ : ∃ a, za0 (rd_TAct ll (k : Int) = a) := ⟨_, ⟨rfl⟩⟩
   have HBA : za0 ((0 ≤ a.f0 ∧ a.f0 ≤ 255) ∧ (0 ≤ a.f1 ∧ a.f1 ≤ 255)) := ⟨by
    have hlt2 : k < ll.length := by rw [Hn.out]; exact hlt
    refine HBY.out a ?_
    rw [← Ha.out]
    unfold rd_TAct
    rw [Int.toNat_natCast, List.getD_eq_getElem?_getD, List.getElem?_eq_getElem hlt2]
    exact List.getElem_mem hlt2⟩
   rw [Ha.out, Int.toNat_natCast] at hgt
   obtain ⟨al, A4, c4, e, t0, t1, t2, t3, t4⟩ := hgt
   subst e
   obtain ⟨x, Hx⟩ : ∃ x, za0 (a.f0 = x) := ⟨_, ⟨rfl⟩⟩
   obtain ⟨y, Hy⟩ : ∃ x, za0 (a.f1 = x) := ⟨_, ⟨rfl⟩⟩
   obtain ⟨rs, Hrs⟩ : ∃ x, za0 (a.f2 = x) := ⟨_, ⟨rfl⟩⟩
   rw [Hx.out] at t0
   rw [Hy.out] at t1
   rw [Hrs.out] at t2 t3 t4
   rw [Hx.out, Hy.out] at HBA
   obtain ⟨m, Hm⟩ : ∃ x, za0 (rs.length = x) := ⟨_, ⟨rfl⟩⟩
   rw [Hm.out] at t2 t3 t4
   have HT : za0 (w.cell? (al.add (k * 3)) = some (.int .u8 x) ∧ w.cell? ⟨(al.add (k * 3)).block, (al.add (k * 3)).off + 1, none⟩ = some (.int .u8 y) ∧ w.cell? ⟨(al.add (k * 3)).block, (al.add (k * 3)).off + 2, none⟩ = some (.slice A4 m c4)) := ⟨⟨t0, t1, t2⟩⟩
   have HR4 : za0 (m ≤ c4 ∧ Kd.C (Kd.int .i32) w A4 m rs) := ⟨⟨t3, t4⟩⟩
   clear t0 t1 t2 t3 t4
   obtain ⟨b, Hb⟩ : ∃ b, za0 (rightB rs = b) := ⟨_, ⟨rfl⟩⟩
   have hw := redpencillaw15_right.calls 100 x y A4 c4 rs b wr (by rw [Hm.out]; exact Kd.C_below HR4.out.2 HB.out) (by rw [Hm.out]; exact HR4.out.1) (by rw [right_is, Hb.out])
   rw [Hm.out] at hw
   have HW := za0.mk hw
   clear hw
   have t0 := zaf HB.out HT.out.1
   have t1 := zaf HB.out HT.out.2.1
   have t2 := zaf HB.out HT.out.2.2
   have hn := HN.out
   go_wp2_with fail
   clear t0 t1 t2
   refine HW.out.mono ?_
   rintro e V1 ⟨rfl, hb⟩
   have HO := za0.mk (RN.below' HO.out hb)
   have HCN := za0.mk (za7 HCN.out hb)
   have HB := za0.mk (za5 HB.out hb)
   clear hb HW
   cases b with
   | false =>
    go_wp2_with fail
    refine (known15_call _).mono ?_
    rintro e VK ⟨rfl, hd⟩
    have HB := za0.mk (za5 HB.out hd)
    clear hd
    go_wp2
    go_ret
    exact ⟨rfl, HB.out⟩
   | true =>
   have hq := right_ok Hb.out
   rw [Hm.out] at hq
   obtain ⟨nv, Hnv⟩ : ∃ q, za0 ((runesOf S).length = q) := ⟨_, ⟨rfl⟩⟩
   have HVL : za0 ((visOf S).length = nv) := ⟨by rw [← Hnv.out]; unfold runesOf; rw [List.length_map]⟩
   obtain ⟨a1, e1, f1⟩ := mod_nat (nv := nv) HBA.out.1.1
   obtain ⟨b1, e2, f2⟩ := mod_nat2 HBA.out.2.1 f1
   obtain ⟨c, Hz⟩ : ∃ c : Int, za0 ((k % 2 = 0 ∧ c = p) ∨ (k % 2 = 1 ∧ c = q)) := by
    rcases Nat.mod_two_eq_zero_or_one k with h | h
    ·
     exact ⟨p, ⟨.inl ⟨h, rfl⟩⟩⟩
    ·
     exact ⟨q, ⟨.inr ⟨h, rfl⟩⟩⟩
   have HRC : za0 (((1 + (k : Int) % 2) = 1 ∧ c = p) ∨ ((1 + (k : Int) % 2) = 2 ∧ c = q)) := ⟨by have := Hz.out; omega⟩
   have HE : za0 (EdOk S ⟨1 + (k : Int) % 2, c⟩ a1 b1 rs) := ⟨play_ed HP.out (by have := HN.out; omega) (by rw [HVL.out]; exact f2) hq.2 (by rw [Hm.out]; exact hq.1) HRC.out⟩
   obtain ⟨X, HX⟩ : ∃ X, za0 (joinJ S (deltaE S ⟨1 + (k : Int) % 2, c⟩ a1 b1 rs) = X) := ⟨_, ⟨rfl⟩⟩
   have HNX : za0 (∀ p' q' : Int, ((1 + (k : Int) % 2) = 1 ∧ c = p ∧ p' = p + (m : Int) ∧ q' = q) ∨ ((1 + (k : Int) % 2) = 2 ∧ c = q ∧ p' = p ∧ q' = q + (m : Int)) → PlayOk X p' q' (k + 1)) := ⟨fun p' q' h => by
    rw [← HX.out]
    exact play_next HP.out (by have := HN.out; omega) (by rw [HVL.out]; exact f2) hq.2 (by rw [Hm.out]; exact hq.1) (by rw [Hm.out]; exact h)⟩
   have HSL : za0 (S.length = ns) := ⟨(RN.C HO.out).1⟩
   have HCE : za0 (∀ W, Below V1.heap.size V1 W → Calls Tryz.prog 34 #[.slice As ns cs, .int .i64 (1 + (k : Int) % 2), .int .i64 c, .agg #[.int .u8 x, .int .u8 y, .slice A4 m c4]] W fun e w' => ∃ v0_ v1_ : Value, e = .returned (.tuple #[v0_, v1_, .int .i64 (c + (m : Int)), .bool true]) ∧ RN w' W.heap.size v0_ X ∧ RI w' W.heap.size v1_ (runesOf X) ∧ Below W.heap.size W w') := ⟨fun W hb => by
    have h := edits_call As cs S ⟨1 + (k : Int) % 2, c⟩ x y A4 c4 rs a1 b1 W (by rw [HSL.out]; exact (RN.C (RN.below' HO.out hb)).2.2) (by rw [HSL.out]; exact (RN.C HO.out).2.1) (by rw [Hm.out]; exact Kd.C_below HR4.out.2 (za5 HB.out hb)) (by rw [Hm.out]; exact HR4.out.1) HBA.out.1 HBA.out.2 (by have := HP.out.len; have := HN.out; omega) (by rw [Hm.out]; exact hq.1) (by rw [Hnv.out]; exact e1) (by rw [Hnv.out]; exact e2) HE.out
    rw [HX.out] at h
    rwa [HSL.out, Hm.out] at h⟩
   have HCZ : za0 (∀ V : World, V.heap[gc]? = some (cntO p q) → V.cell? ⟨gc, k % 2, none⟩ = some (.int .i64 c)) := ⟨fun V hV => by
    rcases Hz.out with ⟨h1, h2⟩ | ⟨h1, h2⟩ <;> rw [h1, h2]
    ·
     exact (za4 hV 0).trans rfl
    ·
     exact (za4 hV 1).trans rfl⟩
   have HKZ : za0 (k < n ∧ n ≤ 20) := ⟨⟨hlt, HN.out⟩⟩
   have HGC : za0 (w.heap.size ≤ gc ∧ gc < V1.heap.size) := ⟨⟨Nat.le_of_eq Hgc.out, zan HCN.out⟩⟩
   clear e1 e2 f1 f2 hq
   go_wp2_with fail
   refine AnyOrder.wp_region (by kernel_rfl) (pl10Inv V1.drew al As A4 n c0 ns cs m c4 gc k c x y X _ _ _ _ _ _ _ _ _ _ _ _ _ _ _ _ _ _ _ _ _ _ _ _ _ _ _ _ _ _ _ _ _ _ _ _ _ _ _ _ _ _ _ _ _ _ _ _ _ _ _ _) ⟨false, false, false, false, false, false, false, false, false, false, false, false, false, false, false, false, false, false, false, false, false, false, false, undef, undef, rfl, rfl, ⟨⟨fun h => (by cases h), fun h => (by cases h), fun h => (by cases h), fun h => (by cases h), fun h => (by cases h), Below.refl _ _, fun h => (by cases h)⟩⟩⟩ ?step ?last
   case step =>
    rintro L ac V i ⟨l0, l1, l2, l3, l4, l5, l6, l7, l8, l9, l10, l11, l12, l13, l14, l15, l16, l17, l18, l19, l20, l21, l22, va, vb, rfl, rfl, HF⟩ hi K hK
    rcases AnyOrder.up hi [0, 1, 4, 5, 9, 10, 17, 18, 21, 22, 2, 3, 6, 7, 8, 11, 12, 13, 14, 15, 16, 19, 20] rfl with rfl | rfl | rfl | rfl | rfl | rfl | rfl | rfl | rfl | rfl | rfl | rfl | rfl | rfl | rfl | rfl | rfl | rfl | rfl | rfl | rfl | rfl | rfl
    all_goals
     replace hi := AnyOrder.first hi rfl
     repeat (obtain ⟨ha, hi⟩ := hi; first | obtain rfl := ha | clear ha)
     clear hi
     try simp only [sel_true, selv_true] at hK ⊢
    iterate 10
     ·
      refine AnyOrder.wpOp_go rfl (by rfl) ?_
      go_wp2_with fail
      exact ⟨_, _, _, _, _, _, _, _, _, _, _, _, _, _, _, _, _, _, _, _, _, _, _, va, vb, rfl, rfl, HF⟩
    iterate 4
     ·
      obtain ⟨hkn, hn20⟩ := HKZ.out
      refine AnyOrder.wpOp_go rfl (by rfl) ?_
      go_wp2_with fail
      exact ⟨_, _, _, _, _, _, _, _, _, _, _, _, _, _, _, _, _, _, _, _, _, _, _, va, vb, rfl, rfl, HF⟩
    ·
     have q0 := HCZ.out V (za7 HCN.out (za5 (za3 (Below.refl _ V1)) HF.out.below))
     refine AnyOrder.wpOp_go rfl (by rfl) ?_
     go_wp2_with fail
     exact ⟨_, _, _, _, _, _, _, _, _, _, _, _, _, _, _, _, _, _, _, _, _, _, _, va, vb, rfl, rfl, HF⟩
    ·
     have hkm := HKZ.out
     refine AnyOrder.wpOp_go rfl (by rfl) ?_
     go_wp2_with fail
     exact ⟨_, _, _, _, _, _, _, _, _, _, _, _, _, _, _, _, _, _, _, _, _, _, _, va, vb, rfl, rfl, HF⟩
    ·
     have t0 := zaf (za5 HB.out (za5 (za3 (Below.refl _ V1)) HF.out.below)) HT.out.1
     have t1 := zaf (za5 HB.out (za5 (za3 (Below.refl _ V1)) HF.out.below)) HT.out.2.1
     have t2 := zaf (za5 HB.out (za5 (za3 (Below.refl _ V1)) HF.out.below)) HT.out.2.2
     refine AnyOrder.wpOp_go rfl (by rfl) ?_
     go_wp2_with fail
     exact ⟨_, _, _, _, _, _, _, _, _, _, _, _, _, _, _, _, _, _, _, _, _, _, _, va, vb, rfl, rfl, HF⟩
    ·
     obtain rfl : l14 = false := by cases l14 with | false => rfl | true => cases HF.out.o14 rfl
     obtain rfl : l15 = false := by cases l15 with | false => rfl | true => cases HF.out.o15 rfl
     obtain rfl : l16 = false := by cases l16 with | false => rfl | true => cases HF.out.o16 rfl
     obtain rfl : l19 = false := by cases l19 with | false => rfl | true => cases HF.out.o19 rfl
     obtain rfl : l20 = false := by cases l20 with | false => rfl | true => cases HF.out.o20 rfl
     (try simp only [selv_false] at hK ⊢)
     refine AnyOrder.wpOp_go rfl (by rfl) ?_
     go_wp2_with fail
     refine (HCE.out V (za5 (za3 (Below.refl _ V1)) HF.out.below)).mono ?_
     rintro e V' ⟨v', v'', rfl, hr, _, hb⟩
     exact hK _ _ ⟨_, _, _, _, _, _, _, _, _, _, _, _, _, _, _, _, _, _, _, _, _, _, _, v', v'', rfl, rfl, ⟨⟨fun h => (by cases h), fun h => (by cases h), fun h => (by cases h), fun h => (by cases h), fun h => (by cases h), za5 HF.out.below hb, fun _ => Kd.R_lower hr HF.out.below.size⟩⟩⟩
    ·
     refine AnyOrder.wpOp_go rfl (by rfl) ?_
     go_wp2_with fail
     exact ⟨_, _, _, _, _, _, _, _, _, _, _, _, _, _, _, _, _, _, _, _, _, _, _, va, vb, rfl, rfl, ⟨⟨fun _ => rfl, fun _ => rfl, fun _ => rfl, HF.out.o19, HF.out.o20, HF.out.below, HF.out.r⟩⟩⟩
    ·
     refine AnyOrder.wpOp_go rfl (by rfl) ?_
     go_wp2_with fail
     exact ⟨_, _, _, _, _, _, _, _, _, _, _, _, _, _, _, _, _, _, _, _, _, _, _, va, vb, rfl, rfl, ⟨⟨HF.out.o14, fun _ => rfl, HF.out.o16, fun _ => rfl, HF.out.o20, HF.out.below, HF.out.r⟩⟩⟩
    ·
     refine AnyOrder.wpOp_go rfl (by rfl) ?_
     go_wp2_with fail
     exact ⟨_, _, _, _, _, _, _, _, _, _, _, _, _, _, _, _, _, _, _, _, _, _, _, va, vb, rfl, rfl, ⟨⟨HF.out.o14, HF.out.o15, fun _ => rfl, HF.out.o19, fun _ => rfl, HF.out.below, HF.out.r⟩⟩⟩
    ·
     refine AnyOrder.wpOp_go rfl (by rfl) ?_
     go_wp2_with fail
     exact ⟨_, _, _, _, _, _, _, _, _, _, _, _, _, _, _, _, _, _, _, _, _, _, _, va, vb, rfl, rfl, ⟨⟨HF.out.o14, HF.out.o15, HF.out.o16, fun _ => rfl, HF.out.o20, HF.out.below, HF.out.r⟩⟩⟩
    ·
     refine AnyOrder.wpOp_go rfl (by rfl) ?_
     go_wp2_with fail
     exact ⟨_, _, _, _, _, _, _, _, _, _, _, _, _, _, _, _, _, _, _, _, _, _, _, va, vb, rfl, rfl, ⟨⟨HF.out.o14, HF.out.o15, HF.out.o16, HF.out.o19, fun _ => rfl, HF.out.below, HF.out.r⟩⟩⟩
   case last =>
    rintro L ac V ⟨l0, l1, l2, l3, l4, l5, l6, l7, l8, l9, l10, l11, l12, l13, l14, l15, l16, l17, l18, l19, l20, l21, l22, va, vb, rfl, rfl, HF⟩ hr
    obtain ⟨rfl, rfl, rfl, rfl, rfl, rfl, rfl, rfl, rfl, rfl, rfl, rfl, rfl, rfl, rfl, rfl, rfl, rfl, rfl, rfl, rfl, rfl, rfl, -⟩ := AnyOrder.alls rfl (by kernel_rfl) hr
    clear hr
    simp only [sel_true, selv_true]
    have hbb := za5 (za3 (Below.refl _ V1)) HF.out.below
    have HCN := za0.mk (za7 HCN.out hbb)
    have HB := za0.mk (za5 HB.out hbb)
    have HO := za0.mk (Kd.R_lower (HF.out.r rfl) (za3 (Below.refl V1.heap.size V1)).size)
    clear HF hbb
    obtain ⟨An, cn, rfl⟩ := RN.slice HO.out
    obtain ⟨nx, Hnx⟩ : ∃ q, za0 (X.length = q) := ⟨_, ⟨rfl⟩⟩
    rw [Hnx.out] at HO ⊢
    have hg : V.grownBy (V.setCell ⟨gc, k % 2, none⟩ (.int .i64 (c + (m : Int)))) (some gc) := grown_cellR (k % 2) _
    have HO2 : za0 (RN (V.setCell ⟨gc, k % 2, none⟩ (.int .i64 (c + (m : Int)))) w.heap.size (.slice An nx cn) X) := ⟨Kd.R_lower (RN.keep HO.out (fun g hgo => hg.block g (RN.lt HO.out hgo) (fun e => absurd (RN.block HO.out hgo).1 (by have := HGC.out; have := Option.some.inj e; omega)))) (by have := HGC.out; omega)⟩
    have HB2 : za0 (Below w.heap.size w (V.setCell ⟨gc, k % 2, none⟩ (.int .i64 (c + (m : Int))))) := ⟨HB.out.grown hg HB.out.size (fun q e => by cases e; exact HGC.out.1)⟩
    have HCN2 := za0.mk (blk_set HCN.out (k % 2) (.int .i64 (c + (m : Int))))
    have c5 := HCZ.out V HCN.out
    have f5 := za6 HCN.out (k % 2)
    obtain ⟨hkn, hn20⟩ := HKZ.out
    clear hg HCE HCZ
    go_wp2
    go_roundw
    case rel =>
     rcases Hz.out with ⟨h1, h2⟩ | ⟨h1, h2⟩
     ·
      subst h2
      exact ⟨k + 1, c + (m : Int), q, An, nx, cn, X, rfl, by go_num, by omega, HO2, ⟨HNX.out _ _ (.inl ⟨by omega, rfl, rfl, rfl⟩)⟩, ⟨by rw [HCN2.out, h1]; rfl⟩, HB2⟩
     ·
      subst h2
      exact ⟨k + 1, p, c + (m : Int), An, nx, cn, X, rfl, by go_num, by omega, HO2, ⟨HNX.out _ _ (.inr ⟨by omega, rfl, rfl, rfl⟩)⟩, ⟨by rw [HCN2.out, h1]; rfl⟩, HB2⟩
    case measure => simp [intOf]; omega
  obtain rfl : k = n := by omega
  go_wp2_with fail
  refine (known15_call _).mono ?_
  rintro e VK ⟨rfl, hd⟩
  have HB := za0.mk (za5 HB.out hd)
  clear hd
  go_wp2
  go_ret
  exact ⟨rfl, HB.out⟩
end
end Go.Proofs.YtmbndijbpgobeaaGreat.PWalk
end
section
namespace Go.Proofs.YtmbndijbpgobeaaGreat.editPlays
open Go.ChangeShapes Go.WideShapes Go.ChangeAt Go.RowKit
open Go.ChangeMaps (open_string shut_string)
open Go.Proofs.YtmbndijbpgobeaaGreatW.PrintWords
set_option linter.unusedVariables false
section
/-- A []rune that came in, nil or not. -/
theorem open_runes {H : Type} {enc : TypeId × Value → H} {W : World} {A : Option Addr} {len cap : Nat} {x : DataW H × List MemPlace} {fuel : Nat} (h : DataW.trod enc Tryz.prog W 0 (fun _ => true) true fuel 26 [.slice A len cap] = some x) :
  ∃ xs : List Int, xs.length = len ∧ Kd.C (Kd.int .i32) W A len xs ∧ len ≤ cap := by
 rcases Go.ChangeShapes.open_ints Tryz.underlying26 Tryz.underlying21 (by kernel_rfl) h with ⟨hcs, _⟩ | ⟨a, len', cap', zs, hcs, _, hl, hm, hz, _, hc, _⟩
 ·
  simp at hcs
  obtain ⟨rfl, rfl, rfl⟩ := hcs
  exact ⟨[], rfl, ⟨rfl, by omega, fun hp => absurd hp (by omega)⟩, Nat.le_refl _⟩
 ·
  simp at hcs
  obtain ⟨rfl, rfl, rfl⟩ := hcs
  simp only [if_true] at hz
  refine ⟨zs.take len, by rw [List.length_take]; omega, ⟨by rw [List.length_take]; omega, Nat.le_trans hl hm, fun hp => ⟨a, rfl, fun i r hi => ⟨[.int .i32 r], rfl, rfl, fun j u hu => ?_⟩⟩⟩, hl⟩
  have hj : j = 0 := by
   cases j with
   | zero => rfl
   | succ j => simp at hu
  subst hj
  simp at hu
  subst hu
  have hil : i < len := by
   have := (List.getElem?_eq_some_iff.1 hi).1
   rw [List.length_take] at this
   omega
  rw [List.getElem?_take_of_lt hil] at hi
  have hiz : i < zs.length := by omega
  have e : zs.getD i 0 = r := by rw [List.getD_eq_getElem?_getD, hi]; rfl
  rw [show a.add (i * (Kd.int .i32).sz + 0) = a.add i by simp [Kd.int, Kd.scalar], hc i hiz, e]
theorem three_of {α : Type} {cs : List α} (h : cs.length = 3) : ∃ c0 c1 c2, cs = [c0, c1, c2] := by
 match cs, h with
 | [a, b, c], _ => exact ⟨a, b, c, rfl⟩
set_option maxRecDepth 100000 in
theorem open_act3 {H : Type} {enc : TypeId × Value → H} {W : World} {fuel : Nat} {cs : List Value} {x : DataW H × List MemPlace} (h : DataW.trod enc Tryz.prog W 0 (fun _ => true) true fuel 59 cs = some x) :
  ∃ (a : PWalk.ActN) (A : Option Addr) (c : Nat), cs = [.int .u8 a.f0, .int .u8 a.f1, .slice A a.f2.length c] ∧ ((0 ≤ a.f0 ∧ a.f0 ≤ 255) ∧ (0 ≤ a.f1 ∧ a.f1 ≤ 255)) ∧ a.f2.length ≤ c ∧ Kd.C (Kd.int .i32) W A a.f2.length a.f2 := by
 have e59 : Tryz.prog.cellsOf 59 = 3 := by kernel_rfl
 have e5 : Tryz.prog.cellsOf 5 = 1 := by kernel_rfl
 have e26 : Tryz.prog.cellsOf 26 = 1 := by kernel_rfl
 obtain ⟨y0, y1, y2, n, _, hl, h0, h1, h2⟩ := Go.Deep.trod_struct3 Tryz.underlying59 h
 rw [e59] at hl
 obtain ⟨c0, c1, c2, rfl⟩ := three_of hl
 simp only [e5, e26, List.drop_zero, List.drop_succ_cons, List.take_succ_cons, List.take_zero] at h0 h1 h2
 obtain ⟨k0, i0, _, w0⟩ := DataW.trod_int Tryz.underlying5 h0
 obtain ⟨k1, i1, _, w1⟩ := DataW.trod_int Tryz.underlying5 h1
 simp only [List.cons.injEq, and_true] at i0 i1
 subst i0 i1
 have g0 : 0 ≤ k0 ∧ k0 ≤ 255 := by simpa [Lit.wf, IntKind.min, IntKind.max, IntKind.signed, IntKind.bits] using w0
 have g1 : 0 ≤ k1 ∧ k1 ≤ 255 := by simpa [Lit.wf, IntKind.min, IntKind.max, IntKind.signed, IntKind.bits] using w1
 have hs : ∃ A len cap, c2 = .slice A len cap := by
  rcases Go.ChangeShapes.open_ints Tryz.underlying26 Tryz.underlying21 (by kernel_rfl) h2 with ⟨hcs, _⟩ | ⟨a, len', cap', zs, hcs, _⟩
  ·
   simp at hcs; exact ⟨_, _, _, hcs⟩
  ·
   simp at hcs; exact ⟨_, _, _, hcs⟩
 obtain ⟨A, len, cap, rfl⟩ := hs
 obtain ⟨xs, rfl, hr, hc⟩ := open_runes h2
 exact ⟨⟨k0, k1, xs⟩, A, cap, rfl, ⟨g0, g1⟩, hc, hr⟩
set_option maxRecDepth 100000 in
/-- A []Act that came in, nil or not. -/
theorem open_acts {H : Type} {enc : TypeId × Value → H} {W : World} {A : Option Addr} {len cap : Nat} {x : DataW H × List MemPlace} {fuel : Nat} (h : DataW.trod enc Tryz.prog W 0 (fun _ => true) true fuel 55 [.slice A len cap] = some x) :
  ∃ xs : List PWalk.ActN, xs.length = len ∧ Kd.C PWalk.kAct W A len xs ∧ len ≤ cap ∧ ∀ a ∈ xs, (0 ≤ a.f0 ∧ a.f0 ≤ 255) ∧ (0 ≤ a.f1 ∧ a.f1 ≤ 255) := by
 have e59 : Tryz.prog.cellsOf 59 = 3 := by kernel_rfl
 rcases Go.Deep.open_slice Tryz.underlying55 h with ⟨hcs, _⟩ | ⟨a, len', cap', m, n, D, Pl, hcs, _, hl, hm, hmm, _, hx⟩
 ·
  simp at hcs
  obtain ⟨rfl, rfl, rfl⟩ := hcs
  exact ⟨[], rfl, ⟨rfl, by omega, fun hp => absurd hp (by omega)⟩, Nat.le_refl _, fun n hn => by cases hn⟩
 ·
  simp at hcs
  obtain ⟨rfl, rfl, rfl⟩ := hcs
  simp only [if_true] at hmm
  subst hmm
  rw [e59] at hx
  haveI : Inhabited PWalk.ActN := ⟨⟨0, 0, []⟩⟩
  obtain ⟨N, hN⟩ := Go.Deep.choose_lt (α := PWalk.ActN) (n := len) (p := fun i nd => ((0 ≤ nd.f0 ∧ nd.f0 ≤ 255) ∧ (0 ≤ nd.f1 ∧ nd.f1 ≤ 255)) ∧ ∃ (A2 : Option Addr) (c2 : Nat), nd.f2.length ≤ c2 ∧ Kd.C (Kd.int .i32) W A2 nd.f2.length nd.f2 ∧ ∀ j u, [Value.int .u8 nd.f0, .int .u8 nd.f1, .slice A2 nd.f2.length c2][j]? = some u → W.cell? (a.add (i * 3 + j)) = some u) (fun i hi => by
   obtain ⟨cs', h1, h2⟩ := hx i (by omega)
   obtain ⟨nd, A2, c2, rfl, hb, hlc, hr⟩ := open_act3 h2
   refine ⟨nd, hb, A2, c2, hlc, hr, fun j u hu => ?_⟩
   obtain ⟨_, hlen, hc⟩ := World.cells?_some h1
   have hj : j < 3 := (List.getElem?_eq_some_iff.1 hu).1
   rw [← Addr.add_add a (i * 3) j]
   rw [← hu]
   exact hc j (by simpa using hj))
  refine ⟨(List.range len).map N, by simp, ⟨by simp, Nat.le_trans hl hm, fun hp => ⟨a, rfl, fun i nd hi => ?_⟩⟩, hl, fun nd hnd => ?_⟩
  ·
   have hil : i < len := by simpa using (List.getElem?_eq_some_iff.1 hi).1
   have hnd : nd = N i := by simpa [hil] using hi.symm
   subst hnd
   obtain ⟨_, A2, c2, g1, g2, g3⟩ := hN i hil
   exact ⟨_, rfl, PWalk.kAct_mk W (N i) g1 g2, fun j u hu => g3 j u hu⟩
  ·
   obtain ⟨i, hi, rfl⟩ := List.mem_map.1 hnd
   exact (hN i (by simpa using hi)).1
theorem own : ownKnob Tryz.prog.godebug = none := by kernel_rfl
theorem laidOut : laidOutB Tryz.prog = true := by kernel_rfl
set_option maxRecDepth 100000 in
set_option maxHeartbeats 2000000 in
theorem lifted (os : Os) (started : os.Started) (H : Type) (enc : TypeId × Value → H) :
  ReturnsInHanded {} Tryz.checked os 8 .any (Rows.editPlaysSpec.pre6 enc Tryz.prog Tryz.f8 Rows.editPlaysRow.domain false) (Rows.editPlaysSpec.post enc Tryz.prog Tryz.f8 false true false false) := by
 refine returnsInHanded_of_change_sized (C := Tryz.checked) own started (by kernel_rfl) Tryz.func8
  (ChangeSpec.witness6 (enc := enc) (C := Tryz.checked) false ⟨#[], #[.slice none 0 0], []⟩ 8 (by kernel_rfl) (by kernel_rfl) (by kernel_rfl) (by kernel_rfl)) ?_
 intro W base args ds gs before hval0 hW hcnd hsz0 _
 have hval : ∀ (j : Nat) t v, Tryz.f8.params[j]? = some t → args[j]? = some v → Value.okWide Tryz.prog W .any base t v := hval0
 have hW' := hW
 obtain ⟨p, q, hA0, hV, rfl, hfz, hnd⟩ := hW
 have hA : DataW.TrodAll enc Tryz.prog W 0 (fun _ => true) true Tryz.f8.params.toList args.toList ds p := hA0
 rw [Tryz.params8] at hA hval
 obtain ⟨v0, vs0, d0, ds0, p0, q0, hargs, rfl, rfl, h0, r0⟩ := trodAll_cons hA
 obtain ⟨rfl, rfl, rfl⟩ := trodAll_nil r0
 obtain rfl : args = #[v0] := by cases args; simp_all
 obtain ⟨rfl, rfl⟩ := trodVars_none hV
 obtain ⟨A0, len0, cap0, rfl⟩ := okWide_slice Tryz.underlying55 (hval 0 55 v0 rfl rfl)
 have k0 := h0
 have lt0 : ∀ x ∈ p0, x.block < W.heap.size := by obtain ⟨m, hm⟩ := k0; exact DataW.trod_lt m _ _ _ hm
 obtain ⟨f0, hf0⟩ := h0
 obtain ⟨xs0, rfl, hr0, hc0, hi0⟩ := open_acts hf0
 clear hA0 hval0 hsz0
 refine (PWalk.EditPlays.walk A0 cap0 xs0 W hr0 hc0 hi0).mono fun e W' ⟨he, bel⟩ => ?_
 subst he
 exact ⟨_, rfl, _, _, _, [], _, [], hW', trodAll_mk1 (shut_bool Tryz.underlying4 _), (trodAll_cons_mk (Below.trod laidOut (by kernel_rfl) (of_decide_eq_true (by kernel_rfl)) k0 bel lt0) trodAll_mk0), rfl, bel.frame _, fun h => by cases h⟩
theorem over : Rows.editPlaysRow.holds Tryz.pinned (OpenSpec.ofChange Rows.editPlaysSpec) :=
 OpenClaim.holds_of_wide 8 Tryz.f8 rfl rfl rfl rfl rfl rfl rfl ⟨rfl, rfl, rfl, rfl, rfl⟩ rfl rfl rfl rfl rfl (by kernel_rfl) Tryz.func8 (by kernel_rfl)
  (of_decide_eq_true (by kernel_rfl)) (by unfold Func.isWrapper; first | (rw [if_pos (by decide +kernel)]; kernel_rfl) | (rw [if_neg (by decide +kernel)]; exact ⟨rfl, rfl⟩))
  (fun os started H enc _ => lifted os started H enc)
theorem proved : Rows.EditPlaysSaid := over
#print axioms proved
end
end Go.Proofs.YtmbndijbpgobeaaGreat.editPlays
end
