/-
  The law IndexTexts: what index.Text, index.Runes and index.Len answer for any nodes. Part 10 of 10.
-/
import Derived.Test.YtjlpaagnajmogaaGreatTI
import Derived.Test.YtjlpaagnajmogaaGreatRows
import Derived.WalkKit
import Derived.ProofKit
import Derived.OpenShut
import Derived.ShutString
import Derived.ChangeOld
import Derived.Below
import Derived.SizedLaws
import Derived.Deep.DeepHandedRow
import Derived.Deep.Slices
import Derived.Lib.SmallJoins
section
namespace Go.Proofs.YtjlpaagnajmogaaGreat.PWalk
open Go.RowKit Go.Proofs.YtjlpaagnajmogaaGreatW.PrintWords Go.Proofs.YtjlpaagnajmogaaGreatW.PrintLast Go.Proofs.YtjlpaagnajmogaaGreatW.PrintMore
set_option linter.unusedVariables false
set_option linter.unusedSimpArgs false
def redpencilref02_Bytes.f (a0 : Int) : Option (List Int) := if a0 < 128 then (some (([(a0) % 256] : List Int))) else (if a0 < 2048 then (some (([(wrap64 (192 + (wrap64 (Int.tdiv a0 64)))) % 256, (wrap64 (128 + (Int.tmod a0 64))) % 256] : List Int))) else (if a0 < 65536 then (some (([(wrap64 (224 + (wrap64 (Int.tdiv a0 4096)))) % 256, (wrap64 (128 + (Int.tmod (wrap64 (Int.tdiv a0 64)) 64))) % 256, (wrap64 (128 + (Int.tmod a0 64))) % 256] : List Int))) else (some (([(wrap64 (240 + (wrap64 (Int.tdiv a0 262144)))) % 256, (wrap64 (128 + (Int.tmod (wrap64 (Int.tdiv a0 4096)) 64))) % 256, (wrap64 (128 + (Int.tmod (wrap64 (Int.tdiv a0 64)) 64))) % 256, (wrap64 (128 + (Int.tmod a0 64))) % 256] : List Int)))))
set_option maxHeartbeats 8000000 in
set_option maxRecDepth 100000 in
theorem redpencilref02_Bytes.calls (a0 : Int) (r : List Int) (w : World) (h : redpencilref02_Bytes.f a0 = some r) :
  Calls Tryz.prog 116 #[.int .i64 a0] w fun e w' => ∃ v0_ : Value, e = .returned (v0_) ∧ Kd.R (Kd.int .u8) 5 w' w.heap.size (fun _ => True) v0_ r ∧ Below w.heap.size w w' := by
 have HB := Aside0.mk (Below.refl w.heap.size w)
 have H : (if a0 < 128 then (some (([(a0) % 256] : List Int))) else (if a0 < 2048 then (some (([(wrap64 (192 + (wrap64 (Int.tdiv a0 64)))) % 256, (wrap64 (128 + (Int.tmod a0 64))) % 256] : List Int))) else (if a0 < 65536 then (some (([(wrap64 (224 + (wrap64 (Int.tdiv a0 4096)))) % 256, (wrap64 (128 + (Int.tmod (wrap64 (Int.tdiv a0 64)) 64))) % 256, (wrap64 (128 + (Int.tmod a0 64))) % 256] : List Int))) else (some (([(wrap64 (240 + (wrap64 (Int.tdiv a0 262144)))) % 256, (wrap64 (128 + (Int.tmod (wrap64 (Int.tdiv a0 4096)) 64))) % 256, (wrap64 (128 + (Int.tmod (wrap64 (Int.tdiv a0 64)) 64))) % 256, (wrap64 (128 + (Int.tmod a0 64))) % 256] : List Int)))))) = some r := h
 clear h
 by_cases c2 : a0 < 128
 ·
  rw [if_pos c2] at H
  have c2b0 : decide (a0 < 128) = true := decide_eq_true c2
  clear c2
  obtain ⟨y449, hy449⟩ : ∃ y_ : List Int, y_ = (([(a0) % 256] : List Int)) := ⟨_, rfl⟩
  replace H : (some y449) = some r := by first | (rw [hy449]; with_reducible exact H) | (have H2_ := (Option.bind_some _ _).symm.trans H; rw [hy449]; with_reducible exact H2_) | (have H2_ := (Option.bind_some _ _).symm.trans H; with_reducible exact H2_) | with_reducible exact H | (rw [hy449]; exact H) | exact H
  have Ny449 := Aside0.mk hy449
  clear hy449
  obtain rfl := Option.some.inj H
  go_enter Tryz.func116, Tryz.ntmps116
  go_wp2_with (first | ((with_reducible refine gate_dst (N := 8) rfl ?_); refine Kd.R_lit (Kd.int .u8) _ 5 ?hg (N := 8) ?hd (xs := ([(a0) % 256] : List Int)) (inner := [.int .u8 ((a0) % 256)]) (ok := fun _ => True) (okp := fun _ => True) ?hr ?hp (fun _ hk => hk) trivial (Below.refl _ _) (Nat.le_refl _) (by simp) ?_; (case hd => rfl); (case hg => rfl); (case hr => first | (go_simp; done) | (go_simp; rfl)); (case hp => exact (Reps.one (show Kd.M (Kd.int .u8) _ _ _ ((a0) % 256) [.int .u8 ((a0) % 256)] from rfl) (Reps.none _ _))); intro v450 w3 ho4 hb hg_ hnew_; clear hg_ hnew_; (first | rw [← Ny449.out] at ho4 | (simp only [Int.reduceToNat] at ho4; rw [← Ny449.out] at ho4)); have n0_ := Aside0.mk (Kd.R_lower ho4 (below_size (by repeat (first | (with_reducible first | exact HB.out | apply below_alloc | apply pw_below_drewN | apply below_drew1) | exact HB.out)))); have n1_ := Aside0.mk (below_step (by repeat (first | (with_reducible first | exact HB.out | apply below_alloc | apply pw_below_drewN | apply below_drew1) | exact HB.out)) hb); clear HB; have HO451 := n0_; have HB := n1_; clear n0_ n1_; clear hb ho4))
  go_ret
  exact ⟨_, by first | rfl | (simp [errW_none, errW_some] <;> rfl) | (simp [*, errW_none, errW_some] <;> rfl), by (with_reducible repeat (first | apply Kd.R_alloc | apply Kd.R_drewN | apply Kd.R_drew)); exact HO451.out, by repeat (first | (with_reducible first | exact HB.out | apply below_alloc | apply pw_below_drewN | apply below_drew1) | exact HB.out)⟩
 ·
  rw [if_neg c2] at H
  have c2b0 : decide (a0 < 128) = false := decide_eq_false c2
  clear c2
  by_cases c5 : a0 < 2048
  ·
   rw [if_pos c5] at H
   have c5b0 : decide (a0 < 2048) = true := decide_eq_true c5
   clear c5
   obtain ⟨y452, hy452⟩ : ∃ y_ : List Int, y_ = (([(wrap64 (192 + (wrap64 (Int.tdiv a0 64)))) % 256, (wrap64 (128 + (Int.tmod a0 64))) % 256] : List Int)) := ⟨_, rfl⟩
   replace H : (some y452) = some r := by first | (rw [hy452]; with_reducible exact H) | (have H2_ := (Option.bind_some _ _).symm.trans H; rw [hy452]; with_reducible exact H2_) | (have H2_ := (Option.bind_some _ _).symm.trans H; with_reducible exact H2_) | with_reducible exact H | (rw [hy452]; exact H) | exact H
   have Ny452 := Aside0.mk hy452
   clear hy452
   obtain rfl := Option.some.inj H
   go_enter Tryz.func116, Tryz.ntmps116
   go_wp2_with (first | ((with_reducible refine gate_dst (N := 20) rfl ?_); refine Kd.R_lit (Kd.int .u8) _ 5 ?hg (N := 20) ?hd (xs := ([(wrap64 (192 + (wrap64 (Int.tdiv a0 64)))) % 256, (wrap64 (128 + (Int.tmod a0 64))) % 256] : List Int)) (inner := [.int .u8 ((wrap64 (192 + (wrap64 (Int.tdiv a0 64)))) % 256), .int .u8 ((wrap64 (128 + (Int.tmod a0 64))) % 256)]) (ok := fun _ => True) (okp := fun _ => True) ?hr ?hp (fun _ hk => hk) trivial (Below.refl _ _) (Nat.le_refl _) (by simp) ?_; (case hd => rfl); (case hg => rfl); (case hr => first | (go_simp; done) | (go_simp; rfl)); (case hp => exact (Reps.one (show Kd.M (Kd.int .u8) _ _ _ ((wrap64 (192 + (wrap64 (Int.tdiv a0 64)))) % 256) [.int .u8 ((wrap64 (192 + (wrap64 (Int.tdiv a0 64)))) % 256)] from rfl) (Reps.one (show Kd.M (Kd.int .u8) _ _ _ ((wrap64 (128 + (Int.tmod a0 64))) % 256) [.int .u8 ((wrap64 (128 + (Int.tmod a0 64))) % 256)] from rfl) (Reps.none _ _)))); intro v453 w6 ho7 hb hg_ hnew_; clear hg_ hnew_; (first | rw [← Ny452.out] at ho7 | (simp only [Int.reduceToNat] at ho7; rw [← Ny452.out] at ho7)); have n0_ := Aside0.mk (Kd.R_lower ho7 (below_size (by repeat (first | (with_reducible first | exact HB.out | apply below_alloc | apply pw_below_drewN | apply below_drew1) | exact HB.out)))); have n1_ := Aside0.mk (below_step (by repeat (first | (with_reducible first | exact HB.out | apply below_alloc | apply pw_below_drewN | apply below_drew1) | exact HB.out)) hb); clear HB; have HO454 := n0_; have HB := n1_; clear n0_ n1_; clear hb ho7))
   go_ret
   exact ⟨_, by first | rfl | (simp [errW_none, errW_some] <;> rfl) | (simp [*, errW_none, errW_some] <;> rfl), by (with_reducible repeat (first | apply Kd.R_alloc | apply Kd.R_drewN | apply Kd.R_drew)); exact HO454.out, by repeat (first | (with_reducible first | exact HB.out | apply below_alloc | apply pw_below_drewN | apply below_drew1) | exact HB.out)⟩
  ·
   rw [if_neg c5] at H
   have c5b0 : decide (a0 < 2048) = false := decide_eq_false c5
   clear c5
   by_cases c8 : a0 < 65536
   ·
    rw [if_pos c8] at H
    have c8b0 : decide (a0 < 65536) = true := decide_eq_true c8
    clear c8
    obtain ⟨y455, hy455⟩ : ∃ y_ : List Int, y_ = (([(wrap64 (224 + (wrap64 (Int.tdiv a0 4096)))) % 256, (wrap64 (128 + (Int.tmod (wrap64 (Int.tdiv a0 64)) 64))) % 256, (wrap64 (128 + (Int.tmod a0 64))) % 256] : List Int)) := ⟨_, rfl⟩
    replace H : (some y455) = some r := by first | (rw [hy455]; with_reducible exact H) | (have H2_ := (Option.bind_some _ _).symm.trans H; rw [hy455]; with_reducible exact H2_) | (have H2_ := (Option.bind_some _ _).symm.trans H; with_reducible exact H2_) | with_reducible exact H | (rw [hy455]; exact H) | exact H
    have Ny455 := Aside0.mk hy455
    clear hy455
    obtain rfl := Option.some.inj H
    go_enter Tryz.func116, Tryz.ntmps116
    go_wp2_with (first | ((with_reducible refine gate_dst (N := 37) rfl ?_); refine Kd.R_lit (Kd.int .u8) _ 5 ?hg (N := 37) ?hd (xs := ([(wrap64 (224 + (wrap64 (Int.tdiv a0 4096)))) % 256, (wrap64 (128 + (Int.tmod (wrap64 (Int.tdiv a0 64)) 64))) % 256, (wrap64 (128 + (Int.tmod a0 64))) % 256] : List Int)) (inner := [.int .u8 ((wrap64 (224 + (wrap64 (Int.tdiv a0 4096)))) % 256), .int .u8 ((wrap64 (128 + (Int.tmod (wrap64 (Int.tdiv a0 64)) 64))) % 256), .int .u8 ((wrap64 (128 + (Int.tmod a0 64))) % 256)]) (ok := fun _ => True) (okp := fun _ => True) ?hr ?hp (fun _ hk => hk) trivial (Below.refl _ _) (Nat.le_refl _) (by simp) ?_; (case hd => rfl); (case hg => rfl); (case hr => first | (go_simp; done) | (go_simp; rfl)); (case hp => exact (Reps.one (show Kd.M (Kd.int .u8) _ _ _ ((wrap64 (224 + (wrap64 (Int.tdiv a0 4096)))) % 256) [.int .u8 ((wrap64 (224 + (wrap64 (Int.tdiv a0 4096)))) % 256)] from rfl) (Reps.one (show Kd.M (Kd.int .u8) _ _ _ ((wrap64 (128 + (Int.tmod (wrap64 (Int.tdiv a0 64)) 64))) % 256) [.int .u8 ((wrap64 (128 + (Int.tmod (wrap64 (Int.tdiv a0 64)) 64))) % 256)] from rfl) (Reps.one (show Kd.M (Kd.int .u8) _ _ _ ((wrap64 (128 + (Int.tmod a0 64))) % 256) [.int .u8 ((wrap64 (128 + (Int.tmod a0 64))) % 256)] from rfl) (Reps.none _ _))))); intro v456 w9 ho10 hb hg_ hnew_; clear hg_ hnew_; (first | rw [← Ny455.out] at ho10 | (simp only [Int.reduceToNat] at ho10; rw [← Ny455.out] at ho10)); have n0_ := Aside0.mk (Kd.R_lower ho10 (below_size (by repeat (first | (with_reducible first | exact HB.out | apply below_alloc | apply pw_below_drewN | apply below_drew1) | exact HB.out)))); have n1_ := Aside0.mk (below_step (by repeat (first | (with_reducible first | exact HB.out | apply below_alloc | apply pw_below_drewN | apply below_drew1) | exact HB.out)) hb); clear HB; have HO457 := n0_; have HB := n1_; clear n0_ n1_; clear hb ho10))
    go_ret
    exact ⟨_, by first | rfl | (simp [errW_none, errW_some] <;> rfl) | (simp [*, errW_none, errW_some] <;> rfl), by (with_reducible repeat (first | apply Kd.R_alloc | apply Kd.R_drewN | apply Kd.R_drew)); exact HO457.out, by repeat (first | (with_reducible first | exact HB.out | apply below_alloc | apply pw_below_drewN | apply below_drew1) | exact HB.out)⟩
   ·
    rw [if_neg c8] at H
    have c8b0 : decide (a0 < 65536) = false := decide_eq_false c8
    clear c8
    obtain ⟨y458, hy458⟩ : ∃ y_ : List Int, y_ = (([(wrap64 (240 + (wrap64 (Int.tdiv a0 262144)))) % 256, (wrap64 (128 + (Int.tmod (wrap64 (Int.tdiv a0 4096)) 64))) % 256, (wrap64 (128 + (Int.tmod (wrap64 (Int.tdiv a0 64)) 64))) % 256, (wrap64 (128 + (Int.tmod a0 64))) % 256] : List Int)) := ⟨_, rfl⟩
    replace H : (some y458) = some r := by first | (rw [hy458]; with_reducible exact H) | (have H2_ := (Option.bind_some _ _).symm.trans H; rw [hy458]; with_reducible exact H2_) | (have H2_ := (Option.bind_some _ _).symm.trans H; with_reducible exact H2_) | with_reducible exact H | (rw [hy458]; exact H) | exact H
    have Ny458 := Aside0.mk hy458
    clear hy458
    obtain rfl := Option.some.inj H
    go_enter Tryz.func116, Tryz.ntmps116
    go_wp2_with (first | ((with_reducible refine gate_dst (N := 56) rfl ?_); refine Kd.R_lit (Kd.int .u8) _ 5 ?hg (N := 56) ?hd (xs := ([(wrap64 (240 + (wrap64 (Int.tdiv a0 262144)))) % 256, (wrap64 (128 + (Int.tmod (wrap64 (Int.tdiv a0 4096)) 64))) % 256, (wrap64 (128 + (Int.tmod (wrap64 (Int.tdiv a0 64)) 64))) % 256, (wrap64 (128 + (Int.tmod a0 64))) % 256] : List Int)) (inner := [.int .u8 ((wrap64 (240 + (wrap64 (Int.tdiv a0 262144)))) % 256), .int .u8 ((wrap64 (128 + (Int.tmod (wrap64 (Int.tdiv a0 4096)) 64))) % 256), .int .u8 ((wrap64 (128 + (Int.tmod (wrap64 (Int.tdiv a0 64)) 64))) % 256), .int .u8 ((wrap64 (128 + (Int.tmod a0 64))) % 256)]) (ok := fun _ => True) (okp := fun _ => True) ?hr ?hp (fun _ hk => hk) trivial (Below.refl _ _) (Nat.le_refl _) (by simp) ?_; (case hd => rfl); (case hg => rfl); (case hr => first | (go_simp; done) | (go_simp; rfl)); (case hp => exact (Reps.one (show Kd.M (Kd.int .u8) _ _ _ ((wrap64 (240 + (wrap64 (Int.tdiv a0 262144)))) % 256) [.int .u8 ((wrap64 (240 + (wrap64 (Int.tdiv a0 262144)))) % 256)] from rfl) (Reps.one (show Kd.M (Kd.int .u8) _ _ _ ((wrap64 (128 + (Int.tmod (wrap64 (Int.tdiv a0 4096)) 64))) % 256) [.int .u8 ((wrap64 (128 + (Int.tmod (wrap64 (Int.tdiv a0 4096)) 64))) % 256)] from rfl) (Reps.one (show Kd.M (Kd.int .u8) _ _ _ ((wrap64 (128 + (Int.tmod (wrap64 (Int.tdiv a0 64)) 64))) % 256) [.int .u8 ((wrap64 (128 + (Int.tmod (wrap64 (Int.tdiv a0 64)) 64))) % 256)] from rfl) (Reps.one (show Kd.M (Kd.int .u8) _ _ _ ((wrap64 (128 + (Int.tmod a0 64))) % 256) [.int .u8 ((wrap64 (128 + (Int.tmod a0 64))) % 256)] from rfl) (Reps.none _ _)))))); intro v459 w11 ho12 hb hg_ hnew_; clear hg_ hnew_; (first | rw [← Ny458.out] at ho12 | (simp only [Int.reduceToNat] at ho12; rw [← Ny458.out] at ho12)); have n0_ := Aside0.mk (Kd.R_lower ho12 (below_size (by repeat (first | (with_reducible first | exact HB.out | apply below_alloc | apply pw_below_drewN | apply below_drew1) | exact HB.out)))); have n1_ := Aside0.mk (below_step (by repeat (first | (with_reducible first | exact HB.out | apply below_alloc | apply pw_below_drewN | apply below_drew1) | exact HB.out)) hb); clear HB; have HO460 := n0_; have HB := n1_; clear n0_ n1_; clear hb ho12))
    go_ret
    exact ⟨_, by first | rfl | (simp [errW_none, errW_some] <;> rfl) | (simp [*, errW_none, errW_some] <;> rfl), by (with_reducible repeat (first | apply Kd.R_alloc | apply Kd.R_drewN | apply Kd.R_drew)); exact HO460.out, by repeat (first | (with_reducible first | exact HB.out | apply below_alloc | apply pw_below_drewN | apply below_drew1) | exact HB.out)⟩
def redpencilref02_Encode.l0 : Nat → List Int → List Int → Int → Option (ByteArray × Int)
 | 0, _, _, _ => none
 | k + 1, x0, x4, x5 => if x5 < (x0.length : Int) then (if 0 ≤ x5 then ((redpencilref02_Valid.f (rd x0 x5)).bind fun t462 => (if t462 = true then ((redpencilref02_Bytes.f (wrap64 (rd x0 x5))).bind fun t464 => (if x4.length + t464.length < 140737488355328 then (redpencilref02_Encode.l0 k x0 (x4 ++ t464) (wrap64 (x5 + 1))) else (none))) else (some ((⟨#[]⟩ : ByteArray), 13)))) else (none)) else (some (strOfNums x4, 0))
def redpencilref02_Encode.f (k : Nat) (l0 : List Int) : Option (ByteArray × Int) := redpencilref02_Encode.l0 k l0 ([] : List Int) 0
set_option maxHeartbeats 8000000 in
set_option maxRecDepth 100000 in
theorem redpencilref02_Encode.calls (k : Nat) (A0 : Option Addr) (c0 : Nat) (l0 : List Int) (r1 : ByteArray) (r2 : Int) (w : World) (hr0 : Kd.C (Kd.int .i32) w A0 l0.length l0) (hc0 : l0.length ≤ c0) (h : redpencilref02_Encode.f k l0 = some (r1, r2)) :
  Calls Tryz.prog 82 #[.slice A0 l0.length c0] w fun e w' => e = .returned (.tuple #[.string r1, .int .i64 r2]) ∧ Below w.heap.size w w' := by
 have HR0 := Aside0.mk hr0
 have HC0 := Aside0.mk hc0
 clear hr0 hc0
 have HB := Aside0.mk (Below.refl w.heap.size w)
 have H : (redpencilref02_Encode.l0 k l0 ([] : List Int) 0) = some (r1, r2) := h
 clear h
 have H' := Aside0.mk H
 clear H
 go_enter Tryz.func82, Tryz.ntmps82
 go_wp2
 go_loopg [4, 5] k (fun kq v4 v5 w' => ∃ (x4_1 : List Int) (x5_1 : Int), v5 = .int .i64 x5_1 ∧ Aside0 (redpencilref02_Encode.l0 kq l0 x4_1 x5_1 = some (r1, r2)) ∧ Aside0 (kq ≤ k) ∧ Aside0 (Kd.R (Kd.int .u8) 5 w' w.heap.size (fun _ => True) v4 x4_1) ∧ Aside0 (Below w.heap.size w w'))
 case atStart => exact ⟨(([] : List Int)), (0), (by first | rfl | (simp; done) | (simp [*]; done)), H', ⟨Nat.le_refl _⟩, ⟨by first | exact Kd.R_nil _ _ _ _ _ | exact Kd.N_nil _ _ _ _ _ | exact Kd.V_nil _ _ _ _ _ | exact Kd.Q_nil _ _ _ _ _ | exact Kd.S_nil _ _ _ _ _⟩, ⟨by repeat (first | (with_reducible first | exact HB.out | apply below_alloc | apply pw_below_drewN | apply below_drew1) | exact HB.out)⟩⟩
 case round =>
  clear H'
  obtain ⟨x4_1, x5_1, rfl, HA, HK1, HO_4, HB⟩ := hrel
  cases gk with
  | zero => exact absurd HA.out (by simp [redpencilref02_Encode.l0])
  | succ k1 =>
   have H := HA.out
   clear HA
   simp only [redpencilref02_Encode.l0] at H
   by_cases c2 : x5_1 < (l0.length : Int)
   ·
    rw [if_pos c2] at H
    have c2b0 : decide (x5_1 < (l0.length : Int)) = true := decide_eq_true c2
    clear c2
    by_cases c3 : 0 ≤ x5_1
    ·
     rw [if_pos c3] at H
     have c3b0 : decide (0 ≤ x5_1) = true := decide_eq_true c3
     clear c3
     replace H := Option.bind_eq_some_iff.mp H
     obtain ⟨t462, A40, H⟩ := H
     replace H : (if t462 = true then ((redpencilref02_Bytes.f (wrap64 (rd l0 x5_1))).bind fun t464 => (if x4_1.length + t464.length < 140737488355328 then (redpencilref02_Encode.l0 k1 l0 (x4_1 ++ t464) (wrap64 (x5_1 + 1))) else (none))) else (some ((⟨#[]⟩ : ByteArray), 13))) = some (r1, r2) := H
     have A4 := Aside0.mk A40
     clear A40
     by_cases c5 : t462 = true
     ·
      subst c5
      have H1 : ((redpencilref02_Bytes.f (wrap64 (rd l0 x5_1))).bind fun t464 => (if x4_1.length + t464.length < 140737488355328 then (redpencilref02_Encode.l0 k1 l0 (x4_1 ++ t464) (wrap64 (x5_1 + 1))) else (none))) = some (r1, r2) := by rw [if_pos rfl] at H; exact H
      clear H
      have H := H1
      clear H1
      replace H := Option.bind_eq_some_iff.mp H
      obtain ⟨t464, A60, H⟩ := H
      replace H : (if x4_1.length + t464.length < 140737488355328 then (redpencilref02_Encode.l0 k1 l0 (x4_1 ++ t464) (wrap64 (x5_1 + 1))) else (none)) = some (r1, r2) := H
      have A6 := Aside0.mk A60
      clear A60
      by_cases c7 : x4_1.length + t464.length < 140737488355328
      ·
       rw [if_pos c7] at H
       have LMc7 := Aside0.mk c7
       clear c7
       obtain ⟨y467, hy467⟩ : ∃ y_ : List Int, y_ = (x4_1 ++ t464) := ⟨_, rfl⟩
       replace H : (redpencilref02_Encode.l0 k1 l0 y467 (wrap64 (x5_1 + 1))) = some (r1, r2) := by first | (rw [hy467]; with_reducible exact H) | (have H2_ := (Option.bind_some _ _).symm.trans H; rw [hy467]; with_reducible exact H2_) | (have H2_ := (Option.bind_some _ _).symm.trans H; with_reducible exact H2_) | with_reducible exact H | (rw [hy467]; exact H) | exact H
       have Ny467 := Aside0.mk hy467
       clear hy467
       have H' := Aside0.mk H
       clear H
       have p461 : 0 ≤ (x5_1 : Int) := of_decide_eq_true (by first | (with_reducible assumption) | assumption)
       have q461 : x5_1 < (l0.length : Int) := of_decide_eq_true (by first | (with_reducible assumption) | assumption)
       obtain ⟨ad461, e461, hx461_0⟩ := Kd.at_int HR0.out x5_1 p461 q461
       cases e461
       replace hx461_0 := (HB.out.cell (World.block_lt_of_cell? w _ hx461_0)).trans hx461_0
       replace p461 := eq_true p461
       replace q461 := eq_true q461
       go_wp2_with (first | ((with_reducible refine gate_callee (f := 106) rfl ?_); refine goesL_ (some 16) rfl rfl Tryz.func106 (by kernel_rfl) rfl #[.int .i32 (rd l0 x5_1)] rfl (by (try simp only [List.map_toArray, List.map_cons, List.map_nil]); first | done | rfl | (simp only [List.length_drop, List.length_take]; rfl)) ?_; (with_reducible refine (redpencilref02_Valid.calls (rd l0 x5_1) true _ A4.out).mono ?_); rintro e w' ⟨rfl, ⟨nd, rfl⟩⟩; refine ⟨_, rfl, ?_⟩; have p463 : 0 ≤ (x5_1 : Int) := of_decide_eq_true (by first | (with_reducible assumption) | assumption); have q463 : x5_1 < (l0.length : Int) := of_decide_eq_true (by first | (with_reducible assumption) | assumption); obtain ⟨ad463, e463, hx463_0⟩ := Kd.at_int HR0.out x5_1 p463 q463; obtain rfl : ad461 = ad463 := (by injection e463); replace hx463_0 := (HB.out.cell (World.block_lt_of_cell? w _ hx463_0)).trans hx463_0; replace p463 := eq_true p463; replace q463 := eq_true q463) | ((with_reducible refine gate_callee (f := 116) rfl ?_); refine goesL_ (some 24) rfl rfl Tryz.func116 (by kernel_rfl) rfl #[.int .i64 (wrap64 (rd l0 x5_1))] rfl (by (try simp only [List.map_toArray, List.map_cons, List.map_nil]); first | done | rfl | (simp only [List.length_drop, List.length_take]; rfl)) ?_; (with_reducible refine (redpencilref02_Bytes.calls (wrap64 (rd l0 x5_1)) t464 _ A6.out).mono ?_); rintro e w8 ⟨v465, rfl, ho0, hb⟩; refine ⟨_, rfl, ?_⟩; have n0_ := Aside0.mk (Kd.R_elder' (by (with_reducible repeat (first | apply Kd.R_alloc | apply Kd.R_drewN | apply Kd.R_drew)); exact HO_4.out) (Kd.R_base ho0) hb); have n1_ := Aside0.mk (Kd.R_lower (Kd.R_new' ho0 (Kd.R_lt (by (with_reducible repeat (first | apply Kd.R_alloc | apply Kd.R_drewN | apply Kd.R_drew)); exact HO_4.out))) (below_size (by repeat (first | (with_reducible first | exact HB.out | apply below_alloc | apply pw_below_drewN | apply below_drew1) | exact HB.out)))); have n2_ := Aside0.mk (below_step (by repeat (first | (with_reducible first | exact HB.out | apply below_alloc | apply pw_below_drewN | apply below_drew1) | exact HB.out)) hb); clear HO_4; clear HB; have HO_4 := n0_; have HO466 := n1_; have HB := n2_; clear n0_ n1_ n2_; (try clear hb); (try clear hb2); (try clear hk); (try clear hi); (try clear ho0); obtain ⟨Ao10, co10, eo10⟩ := Kd.R_slice HO466.out; subst eo10) | ((with_reducible refine gate_builtin (b := .append) (xs := #[.tmp 18, .tmp 24]) rfl ?_); at_builtin; refine Kd.R_append_rows (Kd.int .u8) (w0 := w) w.heap.size rfl (.tmp 18) (.tmp 24) 132 5 (.int .u8 0) 1 rfl Tryz.underlying132 info5 rfl (by decide) (by omega) u4 x4_1 t464 _ _ _ (fun k_ => some k_ ≠ (.slice Ao10 t464.length co10 : Value).ownBlock) (fun _ => False) rfl rfl ?aO ?aR (fun _ _ h => h) (fun _ h => h.elim) ?aF ?aB ?aS ?aL ?_; (case aR => repeat (first | exact (Kd.R_reads' HO466.out).2.2 | (with_reducible refine Kd.C_alloc ?_ _) | (with_reducible refine Kd.C_drewN ?_ _) | (with_reducible refine Kd.C_drew ?_))); (case aB => exact (by repeat (first | (with_reducible first | exact HB.out | apply below_alloc | apply pw_below_drewN | apply below_drew1) | exact HB.out))); (case aF => exact (fun k_ hk => Kd.fresh' (Kd.R_lt (by (with_reducible repeat (first | apply Kd.R_alloc | apply Kd.R_drewN | apply Kd.R_drew)); exact HO466.out)) k_ hk)); (case aO => exact (by (with_reducible repeat (first | apply Kd.R_alloc | apply Kd.R_drewN | apply Kd.R_drew)); exact Kd.R_mono HO_4.out (fun _ hk => hk.2))); (case aS => exact (below_size (by repeat (first | (with_reducible first | exact HB.out | apply below_alloc | apply pw_below_drewN | apply below_drew1) | exact HB.out)))); (case aL => have := LMc7.out; omega); intro v468 w9 ho hb hg hat; rw [← Ny467.out] at ho; have n0_ := Aside0.mk (Kd.R_after (ok := (fun _ => True)) (by (with_reducible repeat (first | apply Kd.R_alloc | apply Kd.R_drewN | apply Kd.R_drew)); exact HO466.out) hg hat); have n1_ := Aside0.mk (hb); have n2_ := Aside0.mk (ho); clear HO466; clear HB; clear HO_4; have HO466 := n0_; have HB := n1_; have HO469 := n2_; clear n0_ n1_ n2_; clear ho hb hg hat))
       go_roundg k1
       case measure => have := HK1.out; omega
       case rel => exact ⟨(y467), (wrap64 (x5_1 + 1)), (by first | rfl | (simp; done) | (simp [*]; done)), H', ⟨by have := HK1.out; omega⟩, ⟨by (with_reducible repeat (first | apply Kd.R_alloc | apply Kd.R_drewN | apply Kd.R_drew)); exact Kd.R_mono HO469.out (fun _ hk => trivial)⟩, ⟨by repeat (first | (with_reducible first | exact HB.out | apply below_alloc | apply pw_below_drewN | apply below_drew1) | exact HB.out)⟩⟩
      ·
       rw [if_neg c7] at H
       exact absurd H (by simp)
     ·
      replace c5 := Bool.eq_false_iff.mpr c5
      subst c5
      have H1 : (some ((⟨#[]⟩ : ByteArray), 13)) = some (r1, r2) := by rw [if_neg (show ¬ (false = true) by decide)] at H; exact H
      clear H
      have H := H1
      clear H1
      simp only [Option.some.injEq, Prod.mk.injEq] at H
      obtain ⟨rfl, rfl⟩ := H
      have p461 : 0 ≤ (x5_1 : Int) := of_decide_eq_true (by first | (with_reducible assumption) | assumption)
      have q461 : x5_1 < (l0.length : Int) := of_decide_eq_true (by first | (with_reducible assumption) | assumption)
      obtain ⟨ad461, e461, hx461_0⟩ := Kd.at_int HR0.out x5_1 p461 q461
      cases e461
      replace hx461_0 := (HB.out.cell (World.block_lt_of_cell? w _ hx461_0)).trans hx461_0
      replace p461 := eq_true p461
      replace q461 := eq_true q461
      go_wp2_with (first | ((with_reducible refine gate_callee (f := 106) rfl ?_); refine goesL_ (some 16) rfl rfl Tryz.func106 (by kernel_rfl) rfl #[.int .i32 (rd l0 x5_1)] rfl (by (try simp only [List.map_toArray, List.map_cons, List.map_nil]); first | done | rfl | (simp only [List.length_drop, List.length_take]; rfl)) ?_; (with_reducible refine (redpencilref02_Valid.calls (rd l0 x5_1) false _ A4.out).mono ?_); rintro e w' ⟨rfl, ⟨nd, rfl⟩⟩; refine ⟨_, rfl, ?_⟩))
      go_ret2
      exact ⟨by first | rfl | (simp [errW_none, errW_some] <;> rfl) | (simp [*, errW_none, errW_some] <;> rfl), by repeat (first | (with_reducible first | exact HB.out | apply below_alloc | apply pw_below_drewN | apply below_drew1) | exact HB.out)⟩
    ·
     rw [if_neg c3] at H
     exact absurd H (by simp)
   ·
    rw [if_neg c2] at H
    have c2b0 : decide (x5_1 < (l0.length : Int)) = false := decide_eq_false c2
    clear c2
    simp only [Option.some.injEq, Prod.mk.injEq] at H
    obtain ⟨rfl, rfl⟩ := H
    have hcv11 := own_string (P := Tryz.prog) Tryz.underlying132 Tryz.underlying5 Tryz.underlying9 (Kd.own_of_R HO_4.out)
    go_wp2
    go_ret2
    exact ⟨by first | rfl | (simp [errW_none, errW_some] <;> rfl) | (simp [*, errW_none, errW_some] <;> rfl), by repeat (first | (with_reducible first | exact HB.out | apply below_alloc | apply pw_below_drewN | apply below_drew1) | exact HB.out)⟩
def redpencilref12_Text.f (k : Nat) (l0 : List (S35)) : Option (ByteArray) := (redpencilref12_Runes.f k l0).bind fun t470 => ((redpencilref02_Encode.f k t470).bind fun bt473 => (some bt473.1))
set_option maxHeartbeats 8000000 in
set_option maxRecDepth 100000 in
theorem redpencilref12_Text.calls (k : Nat) (A0 : Option Addr) (c0 : Nat) (l0 : List (S35)) (r : ByteArray) (w : World) (hr0 : Kd.C k35 w A0 l0.length l0) (hc0 : l0.length ≤ c0) (h : redpencilref12_Text.f k l0 = some r) :
  Calls Tryz.prog 38 #[.slice A0 l0.length c0] w fun e w' => e = .returned (.string r) ∧ Below w.heap.size w w' := by
 have HR0 := Aside0.mk hr0
 have HC0 := Aside0.mk hc0
 clear hr0 hc0
 have HB := Aside0.mk (Below.refl w.heap.size w)
 have H : ((redpencilref12_Runes.f k l0).bind fun t470 => ((redpencilref02_Encode.f k t470).bind fun bt473 => (some bt473.1))) = some r := h
 clear h
 replace H := Option.bind_eq_some_iff.mp H
 obtain ⟨t470, A20, H⟩ := H
 replace H : ((redpencilref02_Encode.f k t470).bind fun bt473 => (some bt473.1)) = some r := H
 have A2 := Aside0.mk A20
 clear A20
 replace H := Option.bind_eq_some_iff.mp H
 obtain ⟨⟨t473, t474⟩, A30, H⟩ := H
 replace H : (some t473) = some r := H
 have A3 := Aside0.mk A30
 clear A30
 obtain rfl := Option.some.inj H
 go_enter Tryz.func38, Tryz.ntmps38
 go_wp2_with (first | ((with_reducible refine gate_callee (f := 39) rfl ?_); refine goesL_ (some 7) rfl rfl Tryz.func39 (by kernel_rfl) rfl #[.slice A0 l0.length c0] rfl (by (try simp only [List.map_toArray, List.map_cons, List.map_nil]); first | done | rfl | (simp only [List.length_drop, List.length_take]; rfl)) ?_; (with_reducible refine (redpencilref12_Runes.calls k _ _ l0 t470 _ ?side1 ?side2 A2.out).mono ?_); (case side1 => repeat (first | exact HR0.out | (with_reducible refine Kd.C_alloc ?_ _) | (with_reducible refine Kd.C_drewN ?_ _) | (with_reducible refine Kd.C_drew ?_))); (case side2 => exact HC0.out); rintro e w4 ⟨v471, rfl, ho0, hb⟩; refine ⟨_, rfl, ?_⟩; have n0_ := Aside0.mk (Kd.R_lower ho0 (below_size (by repeat (first | (with_reducible first | exact HB.out | apply below_alloc | apply pw_below_drewN | apply below_drew1) | exact HB.out)))); have n1_ := Aside0.mk (below_step (by repeat (first | (with_reducible first | exact HB.out | apply below_alloc | apply pw_below_drewN | apply below_drew1) | exact HB.out)) hb); clear HB; have HO472 := n0_; have HB := n1_; clear n0_ n1_; (try clear hb); (try clear hb2); (try clear hk); (try clear hi); (try clear ho0); obtain ⟨Ao5, co5, eo5⟩ := Kd.R_slice HO472.out; subst eo5) | ((with_reducible refine gate_callee (f := 82) rfl ?_); refine goesL_ (some 8) rfl rfl Tryz.func82 (by kernel_rfl) rfl #[.slice Ao5 t470.length co5] rfl (by (try simp only [List.map_toArray, List.map_cons, List.map_nil]); first | done | rfl | (simp only [List.length_drop, List.length_take]; rfl)) ?_; (with_reducible refine (redpencilref02_Encode.calls k _ _ t470 t473 t474 _ ?side1 ?side2 A3.out).mono ?_); (case side1 => repeat (first | exact (Kd.R_reads' HO472.out).2.2 | (with_reducible refine Kd.C_alloc ?_ _) | (with_reducible refine Kd.C_drewN ?_ _) | (with_reducible refine Kd.C_drew ?_))); (case side2 => exact (Kd.R_reads' HO472.out).2.1); rintro e w6 ⟨rfl, hb⟩; refine ⟨_, rfl, ?_⟩; have n0_ := Aside0.mk (Kd.R_below (by (with_reducible repeat (first | apply Kd.R_alloc | apply Kd.R_drewN | apply Kd.R_drew)); exact HO472.out) hb); have n1_ := Aside0.mk (below_step (by repeat (first | (with_reducible first | exact HB.out | apply below_alloc | apply pw_below_drewN | apply below_drew1) | exact HB.out)) hb); clear HO472; clear HB; have HO472 := n0_; have HB := n1_; clear n0_ n1_; (try clear hb); (try clear hb2); (try clear hk); (try clear hi)))
 go_ret
 exact ⟨by first | rfl | (simp [errW_none, errW_some] <;> rfl) | (simp [*, errW_none, errW_some] <;> rfl), by repeat (first | (with_reducible first | exact HB.out | apply below_alloc | apply pw_below_drewN | apply below_drew1) | exact HB.out)⟩
end Go.Proofs.YtjlpaagnajmogaaGreat.PWalk
end
section
namespace Go.Proofs.YtjlpaagnajmogaaGreat.PWalk
open Go.RowKit Go.Proofs.YtjlpaagnajmogaaGreatW.PrintWords Go.Proofs.YtjlpaagnajmogaaGreatW.PrintLast Go.Proofs.YtjlpaagnajmogaaGreatW.PrintMore
set_option linter.unusedVariables false
set_option linter.unusedSimpArgs false
open Go.Shelf
attribute [local go_sem] Oper.semAt_some
def runesOf (ll : List Node) : List Int := (visOf ll).map (·.f3)
theorem mem_vis {ll : List Node} (hs : storeOk ll = true) {x : Node} (h : x ∈ visOf ll) : x ∈ ll ∧ ¬ x.f3 = 0 := by
 unfold visOf aliveOf at h
 rw [List.mem_filter] at h
 obtain ⟨h1, h2⟩ := h
 unfold nds at h1
 rw [List.mem_map] at h1
 obtain ⟨p, hp, rfl⟩ := h1
 exact ⟨ord_mem (store_of hs) hp, by simpa using h2⟩
theorem vis_rune {ll : List Node} (hs : storeOk ll = true) {x : Node} (h : x ∈ visOf ll) : runeOk x.f3 = true := by
 obtain ⟨h1, h2⟩ := mem_vis hs h
 unfold storeOk at hs
 rw [Bool.and_eq_true, List.all_eq_true] at hs
 have h3 := hs.1 x h1
 unfold nodeOk at h3
 have h4 := (of_decide_eq_true h3).2.2.2.2.2
 rcases h4 with h4 | h4
 ·
  exact absurd h4 h2
 ·
  exact h4
theorem runesOf_ok {ll : List Node} (hs : storeOk ll = true) : ∀ r ∈ runesOf ll, runeOk r = true := by
 intro r hr
 unfold runesOf at hr
 rw [List.mem_map] at hr
 obtain ⟨x, hx, rfl⟩ := hr
 exact vis_rune hs hx
theorem runesOf_len {ll : List Node} (hs : storeOk ll = true) : (runesOf ll).length ≤ ll.length := by unfold runesOf; rw [List.length_map]; exact vis_len hs
theorem runes_from (v : List Node) (hl : v.length ≤ 1000000) (e : Int) : ∀ (q k i : Nat), i + q = v.length → q < k → index_Runes.l0 k e ((v.take i).map (·.f3)) v (v.length : Int) (i : Int) = some (v.map (·.f3), e) := by
 intro q
 induction q with
 | zero =>
  intro k i hi hk
  obtain ⟨k, rfl⟩ : ∃ m, k = m + 1 := ⟨k - 1, by omega⟩
  simp only [index_Runes.l0]
  rw [if_neg (by omega), show i = v.length by omega, List.take_length]
 | succ q ih =>
  intro k i hi hk
  obtain ⟨k, rfl⟩ : ∃ m, k = m + 1 := ⟨k - 1, by omega⟩
  have hlt : i < v.length := by omega
  simp only [index_Runes.l0]
  rw [if_pos (by omega), if_pos (by omega), if_pos (by omega), rdN hlt, wrap_succ hlt hl, if_pos (by rw [List.length_map, List.length_take]; omega)]
  have hs : (v.take i).map (·.f3) ++ [v[i].f3] = (v.take (i + 1)).map (·.f3) := by rw [List.take_succ_eq_append_getElem hlt, List.map_append]; rfl
  rw [hs]
  exact ih k (i + 1) (by omega) (by omega)
theorem idxRunes_is {ll : List Node} (hl : ll.length ≤ 40) (hs : storeOk ll = true) {k : Nat} (hk : 60 ≤ k) : index_Runes.f k ll = some (runesOf ll, 0) := by
 have hv := vis_len hs
 unfold index_Runes.f
 rw [vis_is (by omega), if_pos hs]
 simp only [Option.bind_some]
 exact runes_from (visOf ll) (by omega) 0 (visOf ll).length k 0 (by omega) (by omega)
theorem idxRunes_bad {ll : List Node} (hl : ll.length ≤ 40) (hs : ¬ storeOk ll = true) {k : Nat} (hk : 60 ≤ k) : index_Runes.f k ll = some ([], 2) := by
 unfold index_Runes.f
 rw [vis_is (by omega), if_neg hs]
 simp only [Option.bind_some]
 exact runes_from [] (by simp) 2 0 k 0 (by simp) (by omega)
theorem refRunes_from (v : List Node) (hl : v.length ≤ 1000000) : ∀ (q k i : Nat), i + q = v.length → q < k → redpencilref12_Runes.l0 k ((v.take i).map (·.f3)) v (i : Int) = some (v.map (·.f3)) := by
 intro q
 induction q with
 | zero =>
  intro k i hi hk
  obtain ⟨k, rfl⟩ : ∃ m, k = m + 1 := ⟨k - 1, by omega⟩
  simp only [redpencilref12_Runes.l0]
  rw [if_neg (by omega), show i = v.length by omega, List.take_length]
 | succ q ih =>
  intro k i hi hk
  obtain ⟨k, rfl⟩ : ∃ m, k = m + 1 := ⟨k - 1, by omega⟩
  have hlt : i < v.length := by omega
  simp only [redpencilref12_Runes.l0]
  rw [if_pos (by omega), if_pos (by omega), rdN hlt, wrap_succ hlt hl, if_pos (by rw [List.length_map, List.length_take]; omega)]
  have hs : (v.take i).map (·.f3) ++ [v[i].f3] = (v.take (i + 1)).map (·.f3) := by rw [List.take_succ_eq_append_getElem hlt, List.map_append]; rfl
  rw [hs]
  exact ih k (i + 1) (by omega) (by omega)
theorem refRunes_is {ll : List Node} (hl : ll.length ≤ 40) (hs : storeOk ll = true) {k : Nat} (hk : 60 ≤ k) : redpencilref12_Runes.f k ll = some (runesOf ll) := by
 have hv := vis_len hs
 unfold redpencilref12_Runes.f
 rw [visible_is hl hs k hk]
 simp only [Option.bind_some]
 exact refRunes_from (visOf ll) (by omega) (visOf ll).length k 0 (by omega) (by omega)
theorem strOfNums_app (xs ys : List Int) : strOfNums (xs ++ ys) = strOfNums xs ++ strOfNums ys := by
 apply ByteArray.ext
 rw [ByteArray.data_append]
 simp [strOfNums]
theorem w_same {a : Int} (h0 : 0 ≤ a) (h1 : a < 1000000000) : wrap64 a = a := by unfold wrap64; omega
theorem w_byte {a : Int} {b : Nat} (h0 : 0 ≤ a) (h1 : a < 256) (h : a = (b : Int)) : (wrap64 a % 256).toNat = b := by
 rw [w_same h0 (by omega), Int.emod_eq_of_lt h0 h1, h, Int.toNat_natCast]
theorem byte_a {n : Nat} (c : n < 2048) : (wrap64 (192 + (n : Int) / 64) % 256).toNat = 192 + n / 64 := w_byte (by omega) (by omega) (by omega)
theorem byte_b {n : Nat} (c : n < 65536) : (wrap64 (224 + (n : Int) / 4096) % 256).toNat = 224 + n / 4096 := w_byte (by omega) (by omega) (by omega)
theorem byte_c {n : Nat} (c : n < 2000000) : (wrap64 (240 + (n : Int) / 262144) % 256).toNat = 240 + n / 262144 := w_byte (by omega) (by omega) (by omega)
theorem byte_d (n : Nat) : (wrap64 (128 + (n : Int) % 64) % 256).toNat = 128 + n % 64 := w_byte (by omega) (by omega) (by omega)
theorem byte_e (n : Nat) : (wrap64 (128 + (n : Int) / 64 % 64) % 256).toNat = 128 + n / 64 % 64 := w_byte (by omega) (by omega) (by omega)
theorem byte_f (n : Nat) : (wrap64 (128 + (n : Int) / 4096 % 64) % 256).toNat = 128 + n / 4096 % 64 := w_byte (by omega) (by omega) (by omega)
theorem byte_g {n : Nat} (c : n < 128) : ((n : Int) % 256).toNat = n := by rw [Int.emod_eq_of_lt (by omega) (by omega), Int.toNat_natCast]
theorem rune_le {r : Int} (h : runeOk r = true) : 0 ≤ r ∧ r ≤ 1114111 ∧ Utf8.valid r = true := by
 unfold runeOk at h
 obtain ⟨h0, h1⟩ := of_decide_eq_true h
 exact ⟨by omega, by omega, by unfold Utf8.valid; simp; omega⟩
theorem bytes_n (n : Nat) (hn : n < 2000000) (hv : Utf8.valid (n : Int) = true) : ∃ bs, redpencilref02_Bytes.f (n : Int) = some bs ∧ bs.length ≤ 4 ∧ strOfNums bs = Utf8.encode (n : Int) := by
 have hd : ∀ m : Int, Int.tdiv (n : Int) m = (n : Int) / m := fun m => Int.tdiv_eq_ediv_of_nonneg (by omega)
 have hm : ∀ a m : Int, 0 ≤ a → Int.tmod a m = a % m := fun a m h => Int.tmod_eq_emod_of_nonneg h
 have hm0 : ∀ m : Int, Int.tmod (n : Int) m = (n : Int) % m := fun m => hm _ m (by omega)
 have w6 : wrap64 ((n : Int) / 64) = (n : Int) / 64 := w_same (by omega) (by omega)
 have w12 : wrap64 ((n : Int) / 4096) = (n : Int) / 4096 := w_same (by omega) (by omega)
 have w18 : wrap64 ((n : Int) / 262144) = (n : Int) / 262144 := w_same (by omega) (by omega)
 unfold redpencilref02_Bytes.f Utf8.encode
 simp only [hv, if_true, Int.toNat_natCast, hd, hm0, w6, w12, w18, hm ((n : Int) / 64) 64 (by omega), hm ((n : Int) / 4096) 64 (by omega)]
 clear hd hm hm0 w6 w12 w18 hv
 by_cases c1 : n < 128
 ·
  rw [if_pos (by omega), if_pos c1]
  refine ⟨_, rfl, by simp, ?_⟩
  apply ByteArray.ext
  simp only [strOfNums, List.map_cons, List.map_nil, byte_g c1]
 ·
  rw [if_neg (by omega), if_neg c1]
  by_cases c2 : n < 2048
  ·
   rw [if_pos (by omega), if_pos c2]
   refine ⟨_, rfl, by simp, ?_⟩
   apply ByteArray.ext
   simp only [strOfNums, List.map_cons, List.map_nil, byte_a c2, byte_d]
  ·
   rw [if_neg (by omega), if_neg c2]
   by_cases c3 : n < 65536
   ·
    rw [if_pos (by omega), if_pos c3]
    refine ⟨_, rfl, by simp, ?_⟩
    apply ByteArray.ext
    simp only [strOfNums, List.map_cons, List.map_nil, byte_b c3, byte_e, byte_d]
   ·
    rw [if_neg (by omega), if_neg c3]
    refine ⟨_, rfl, by simp, ?_⟩
    apply ByteArray.ext
    simp only [strOfNums, List.map_cons, List.map_nil, byte_c hn, byte_f, byte_e, byte_d]
theorem bytes_is {r : Int} (h : runeOk r = true) : ∃ bs, redpencilref02_Bytes.f (wrap64 r) = some bs ∧ bs.length ≤ 4 ∧ strOfNums bs = Utf8.encode r := by
 obtain ⟨h0, h1, hv⟩ := rune_le h
 obtain ⟨n, rfl⟩ : ∃ n : Nat, r = n := ⟨r.toNat, by omega⟩
 rw [w_same h0 (by omega)]
 exact bytes_n n (by omega) hv
theorem runesBytes_succ (l : List Int) (r : Int) : runesBytes (l ++ [r]) = runesBytes l ++ Utf8.encode r := by simp [runesBytes]
theorem encode_from (l : List Int) (hl : l.length ≤ 1000000) (hr : ∀ r ∈ l, runeOk r = true) : ∀ (q k i : Nat) (acc : List Int), i + q = l.length → q < k → acc.length ≤ 4 * i → strOfNums acc = runesBytes (l.take i) → redpencilref02_Encode.l0 k l acc (i : Int) = some (runesBytes l, 0) := by
 intro q
 induction q with
 | zero =>
  intro k i acc hi hk ha he
  obtain ⟨k, rfl⟩ : ∃ m, k = m + 1 := ⟨k - 1, by omega⟩
  simp only [redpencilref02_Encode.l0]
  rw [if_neg (by omega), he, show i = l.length by omega, List.take_length]
 | succ q ih =>
  intro k i acc hi hk ha he
  obtain ⟨k, rfl⟩ : ∃ m, k = m + 1 := ⟨k - 1, by omega⟩
  have hlt : i < l.length := by omega
  have hro := hr _ (List.getElem_mem hlt)
  obtain ⟨bs, hb, hbl, hbe⟩ := bytes_is hro
  have hin : runeIn l[i] := by
   unfold runeOk at hro
   have := of_decide_eq_true hro
   unfold runeIn; omega
  simp only [redpencilref02_Encode.l0]
  rw [if_pos (by omega), if_pos (by omega), rdI hlt, refRune_is _ hin, hro]
  simp only [Option.bind_some, if_true]
  rw [hb]
  simp only [Option.bind_some]
  rw [if_pos (by omega), wrap_succ hlt hl]
  refine ih k (i + 1) _ (by omega) (by omega) (by rw [List.length_append]; omega) ?_
  rw [strOfNums_app, he, hbe, List.take_succ_eq_append_getElem hlt, runesBytes_succ]
theorem refEncode_is (l : List Int) (hl : l.length ≤ 1000000) (hr : ∀ r ∈ l, runeOk r = true) (k : Nat) (hk : l.length < k) : redpencilref02_Encode.f k l = some (runesBytes l, 0) :=
 encode_from l hl hr l.length k 0 [] (by omega) hk (by simp) rfl
theorem refText_is {ll : List Node} (hl : ll.length ≤ 40) (hs : storeOk ll = true) {k : Nat} (hk : 60 ≤ k) : redpencilref12_Text.f k ll = some (runesBytes (runesOf ll)) := by
 have := runesOf_len hs
 unfold redpencilref12_Text.f
 rw [refRunes_is hl hs hk]
 simp only [Option.bind_some]
 rw [refEncode_is _ (by omega) (runesOf_ok hs) k (by omega)]
 rfl
theorem idxText_is {ll : List Node} (hl : ll.length ≤ 40) (hs : storeOk ll = true) {k : Nat} (hk : 60 ≤ k) : index_Text.f k ll = some (runesBytes (runesOf ll), 0) := by
 have := runesOf_len hs
 unfold index_Text.f
 rw [idxRunes_is hl hs hk]
 simp only [Option.bind_some, if_true]
 unfold runes_Encode.f
 rw [if_pos (by omega), if_neg ?_]
 ·
  rfl
 ·
  intro h
  rw [List.any_eq_true] at h
  obtain ⟨r, hr, h2⟩ := h
  rw [runesOf_ok hs r hr] at h2
  cases h2
theorem texts_ok {ll : List Node} (hl : ll.length ≤ 40) (hs : storeOk ll = true) {k : Nat} (hk : 60 ≤ k) : redpencillaw12_texts.f k ll (runesBytes (runesOf ll)) 0 = some true := by
 unfold redpencillaw12_texts.f
 rw [idxText_is hl hs hk]
 simp
theorem texts_bad {ll : List Node} (hl : ll.length ≤ 40) (hs : ¬ storeOk ll = true) {k : Nat} (hk : 60 ≤ k) : redpencillaw12_texts.f k ll ⟨#[]⟩ 2 = some true := by
 unfold redpencillaw12_texts.f index_Text.f
 rw [idxRunes_bad hl hs hk]
 simp
theorem sameI_from (l : List Int) (hl : l.length ≤ 1000000) : ∀ (q k i : Nat), i + q = l.length → q < k → redpencilref02_Same.l0 k l l (i : Int) = some true := by
 intro q
 induction q with
 | zero =>
  intro k i hi hk
  obtain ⟨k, rfl⟩ : ∃ m, k = m + 1 := ⟨k - 1, by omega⟩
  simp only [redpencilref02_Same.l0]
  rw [if_neg (by omega)]
 | succ q ih =>
  intro k i hi hk
  obtain ⟨k, rfl⟩ : ∃ m, k = m + 1 := ⟨k - 1, by omega⟩
  have hlt : i < l.length := by omega
  simp only [redpencilref02_Same.l0]
  rw [if_pos (by omega), if_pos (by omega), if_pos (by omega), if_pos trivial, wrap_succ hlt hl]
  exact ih k (i + 1) (by omega) (by omega)
theorem sameI_is (l : List Int) (hl : l.length ≤ 1000000) (k : Nat) (hk : l.length < k) : redpencilref02_Same.f k l l = some true := by
 unfold redpencilref02_Same.f
 rw [if_pos rfl]
 exact sameI_from l hl l.length k 0 (by omega) hk
theorem chars_ok {ll : List Node} (hl : ll.length ≤ 40) (hs : storeOk ll = true) {k : Nat} (hk : 60 ≤ k) : redpencillaw12_chars.f k ll (runesOf ll) 0 = some true := by
 have := runesOf_len hs
 unfold redpencillaw12_chars.f
 rw [idxRunes_is hl hs hk]
 simp only [Option.bind_some]
 rw [sameI_is _ (by omega) k (by omega)]
 rfl
theorem chars_bad {ll : List Node} (hl : ll.length ≤ 40) (hs : ¬ storeOk ll = true) {k : Nat} (hk : 60 ≤ k) : redpencillaw12_chars.f k ll [] 2 = some true := by
 unfold redpencillaw12_chars.f
 rw [idxRunes_bad hl hs hk]
 simp only [Option.bind_some]
 rw [sameI_is _ (by simp) k (by simp; omega)]
 rfl
theorem has_ok {ll : List Node} (hl : ll.length ≤ 40) (hs : storeOk ll = true) : redpencillaw12_has.f ll ((runesOf ll).length : Int) 0 = some true := by
 unfold redpencillaw12_has.f index_Len.f
 rw [vis_is (by omega), if_pos hs]
 simp [runesOf]
theorem has_bad {ll : List Node} (hl : ll.length ≤ 40) (hs : ¬ storeOk ll = true) : redpencillaw12_has.f ll 0 2 = some true := by
 unfold redpencillaw12_has.f index_Len.f
 rw [vis_is (by omega), if_neg hs]
 rfl
end Go.Proofs.YtjlpaagnajmogaaGreat.PWalk
end
section
namespace Go.Proofs.YtjlpaagnajmogaaGreat.PWalk
end Go.Proofs.YtjlpaagnajmogaaGreat.PWalk
end
section
namespace Go.Proofs.YtjlpaagnajmogaaGreat.PWalk
open Go.RowKit Go.Proofs.YtjlpaagnajmogaaGreatW.PrintWords Go.Proofs.YtjlpaagnajmogaaGreatW.PrintLast Go.Proofs.YtjlpaagnajmogaaGreatW.PrintMore
set_option linter.unusedVariables false
set_option linter.unusedSimpArgs false
open Go.Shelf
attribute [local go_sem] Oper.semAt_some
theorem app_row {ops : Array Oper} {Q : Exit → Act → World → Prop} {o : Oper} {rest : List Oper} {a : Act} {W : World} (hgd : o.guard = none) (x : Operand)
  (ho : o.op = .call { callee := .builtin .append, args := #[.const (.slice none 0 0), x], argTypes := #[22, 22] }) (A : Option Addr) (l0 : List Node) (n c : Nat) (hn : l0.length = n) (hx : a.eval x = .slice A n c)
  (hr : Kd.C k35 W A n l0) (hl : n ≤ 1000000)
  (h : ∀ v1 w1, RN w1 W.heap.size v1 l0 → Below W.heap.size W w1 → wpList Tryz.prog ops Q rest (a.put o.dst v1) w1) : wpList Tryz.prog ops Q (o :: rest) a W := by
 subst hn
 refine Kd.R_append_rows k35 (w0 := W) W.heap.size hgd (.const (.slice none 0 0)) x 22 35 (.agg #[(.int .i64 0), (.int .i64 0), (.int .i64 0), (.int .i64 0), (.int .i64 0), (.int .i32 0)]) 48 ho Tryz.underlying22 info35 rfl (by decide) (by decide) (.slice none 0 0) [] l0 A l0.length c (fun _ => True) (fun _ => False) rfl hx (Kd.R_nil _ _ _ _ _) hr (fun x cs h => (by rw [k35_open h]; exact k35_mkM _ _ _ x)) (fun _ hk => hk.elim) (fun _ _ => trivial) (Below.refl _ _) (Nat.le_refl _) (by simp; omega) ?_
 intro v1 w1 ho hb _ _
 exact h v1 w1 ho hb
theorem nilI {W : World} : Kd.C (Kd.int .i32) W none ([] : List Int).length [] := ⟨rfl, by decide, fun h => absurd h (by decide)⟩
set_option maxHeartbeats 4000000 in
set_option maxRecDepth 100000 in
theorem IndexTexts.walk (A0 : Option Addr) (c0 : Nat) (ll : List Node) (w : World) (hr0 : Kd.C k35 w A0 ll.length ll) (hc0 : ll.length ≤ c0) (hi : ∀ x ∈ ll, runeIn x.f3) :
  Calls Tryz.prog 7 #[.slice A0 ll.length c0] w fun e w' => e = .returned (.bool true) ∧ Below w.heap.size w w' := by
 have HR := Aside0.mk hr0
 have HC := Aside0.mk hc0
 obtain ⟨n, Hn⟩ : ∃ n, Aside0 (ll.length = n) := ⟨_, ⟨rfl⟩⟩
 by_cases h40 : ll.length > 40
 ·
  have hb2 : decide ((40 : Int) < (n : Int)) = true := decide_eq_true (by have := Hn.out; omega)
  have hb3 : decide ((n : Int) > 40) = true := decide_eq_true (by have := Hn.out; omega)
  rw [Hn.out]
  clear hr0 hc0 hi h40
  go_enter Tryz.func7, Tryz.ntmps7
  go_wp2_with fail
  refine (redpencillaw12_known.calls true _ rfl).mono ?_
  rintro e W3 ⟨rfl, hd⟩
  go_wp2
  go_ret
  exact ⟨rfl, hd⟩
 have HL : Aside0 (ll.length ≤ 40) := ⟨by omega⟩
 have hb2 : decide ((40 : Int) < (n : Int)) = false := decide_eq_false (by have := Hn.out; omega)
 have hb3 : decide ((n : Int) > 40) = false := decide_eq_false (by have := Hn.out; omega)
 obtain ⟨b, Hb⟩ : ∃ b, Aside0 (storeOk ll = b) := ⟨_, ⟨rfl⟩⟩
 have hval := redpencilref10_Valid.calls 1000 A0 c0 ll b w hr0 hc0 (by rw [refValid_is ll (by omega) hi 1000 (by omega), Hb.out])
 have hLn : ll.length = n := Hn.out
 rw [hLn] at hval ⊢
 have HVAL := Aside0.mk hval
 clear hr0 hc0 hi h40 hval hLn
 go_enter Tryz.func7, Tryz.ntmps7
 go_wp2_with fail
 refine HVAL.out.mono ?_
 rintro e V1 ⟨rfl, hb⟩
 have HB := Aside0.mk hb
 clear hb HVAL
 cases b with
 | false =>
  have HNO : Aside0 (¬ storeOk ll = true) := ⟨by rw [Hb.out]; decide⟩
  go_wp2_with fail
  have hcall := redpencillaw12_texts.calls 1000 A0 c0 ll ⟨#[]⟩ 2 true V1 (Kd.C_below HR.out HB.out) HC.out (texts_bad HL.out HNO.out (by omega))
  rw [Hn.out] at hcall
  refine hcall.mono ?_
  clear hcall
  rintro e V2 ⟨rfl, hb⟩
  have HB := Aside0.mk (below_more HB.out hb)
  clear hb
  go_wp2_with fail
  have hcall := redpencillaw12_chars.calls 1000 A0 c0 ll none 0 [] 2 true V2 (Kd.C_below HR.out HB.out) HC.out nilI (Nat.le_refl _) (chars_bad HL.out HNO.out (by omega))
  rw [Hn.out] at hcall
  refine hcall.mono ?_
  clear hcall
  rintro e V3 ⟨rfl, hb⟩
  have HB := Aside0.mk (below_more HB.out hb)
  clear hb
  go_wp2_with fail
  have hcall := redpencillaw12_has.calls A0 c0 ll 0 2 true V3 (Kd.C_below HR.out HB.out) HC.out (has_bad HL.out HNO.out)
  rw [Hn.out] at hcall
  refine hcall.mono ?_
  clear hcall
  rintro e V4 ⟨rfl, hb⟩
  have HB := Aside0.mk (below_more HB.out hb)
  clear hb
  go_wp2_with fail
  refine (redpencillaw12_known.calls true _ rfl).mono ?_
  rintro e W3 ⟨rfl, hd⟩
  go_wp2
  go_ret
  exact ⟨rfl, below_more HB.out hd⟩
 | true =>
  have HRN : Aside0 (Kd.C k35 V1 A0 n ll) := ⟨by have := Kd.C_below HR.out HB.out; rwa [Hn.out] at this⟩
  have HN6 : Aside0 (n ≤ 1000000) := ⟨by have h1 := Hn.out; have h2 := HL.out; omega⟩
  go_wp2_with (at_builtin; refine app_row rfl (.tmp 24) rfl A0 ll n c0 Hn.out rfl HRN.out HN6.out ?_; intro v5 W5 hr5 hb5; obtain ⟨A5, c5, rfl⟩ := RN.slice hr5; rw [Hn.out] at hr5 ⊢)
  have HB5 := Aside0.mk (below_more HB.out hb5)
  have HO5 : Aside0 (n ≤ c5 ∧ Kd.C k35 W5 A5 n ll) := ⟨(RN.C hr5).2⟩
  clear hr5 hb5
  have hcall := redpencilref12_Text.calls 1000 A0 c0 ll (runesBytes (runesOf ll)) W5 (Kd.C_below HR.out HB5.out) HC.out (refText_is HL.out Hb.out (by omega))
  rw [Hn.out] at hcall
  refine hcall.mono ?_
  clear hcall
  rintro e W6 ⟨rfl, hb⟩
  have HB6 := Aside0.mk hb
  clear hb
  obtain ⟨s, Hs⟩ : ∃ s, Aside0 (runesBytes (runesOf ll) = s) := ⟨_, ⟨rfl⟩⟩
  rw [Hs.out]
  go_wp2_with fail
  have hcall := redpencillaw12_texts.calls 1000 A5 c5 ll s 0 true W6 (by rw [Hn.out]; exact Kd.C_below HO5.out.2 HB6.out) (by rw [Hn.out]; exact HO5.out.1) (by rw [← Hs.out]; exact texts_ok HL.out Hb.out (by omega))
  rw [Hn.out] at hcall
  refine hcall.mono ?_
  clear hcall
  rintro e W7 ⟨rfl, hb⟩
  have HB6 := Aside0.mk (below_more HB6.out hb)
  clear hb
  go_wp2_with fail
  have hcall := redpencilref12_Runes.calls 1000 A0 c0 ll (runesOf ll) W7 (Kd.C_below HR.out (below_more HB5.out HB6.out)) HC.out (refRunes_is HL.out Hb.out (by omega))
  rw [Hn.out] at hcall
  refine hcall.mono ?_
  clear hcall
  rintro e W8 ⟨v8, rfl, hr8, hb⟩
  have HB6 := Aside0.mk (below_more HB6.out hb)
  obtain ⟨A8, c8, rfl⟩ := Kd.R_slice hr8
  have H8 := Aside0.mk (Kd.R_reads' hr8).2
  clear hb hr8
  obtain ⟨m, Hm⟩ : ∃ m, Aside0 ((runesOf ll).length = m) := ⟨_, ⟨rfl⟩⟩
  rw [Hm.out]
  go_wp2_with fail
  have hcall := redpencillaw12_chars.calls 1000 A5 c5 ll A8 c8 (runesOf ll) 0 true W8 (by rw [Hn.out]; exact Kd.C_below HO5.out.2 HB6.out) (by rw [Hn.out]; exact HO5.out.1) H8.out.2 H8.out.1 (chars_ok HL.out Hb.out (by omega))
  rw [Hn.out, Hm.out] at hcall
  refine hcall.mono ?_
  clear hcall
  rintro e W9 ⟨rfl, hb⟩
  have HB6 := Aside0.mk (below_more HB6.out hb)
  clear hb H8
  go_wp2_with fail
  have hcall := redpencilref12_Runes.calls 1000 A0 c0 ll (runesOf ll) W9 (Kd.C_below HR.out (below_more HB5.out HB6.out)) HC.out (refRunes_is HL.out Hb.out (by omega))
  rw [Hn.out] at hcall
  refine hcall.mono ?_
  clear hcall
  rintro e W10 ⟨v10, rfl, hr10, hb⟩
  have HB6 := Aside0.mk (below_more HB6.out hb)
  obtain ⟨A10, c10, rfl⟩ := Kd.R_slice hr10
  clear hb hr10
  rw [Hm.out]
  go_wp2_with fail
  have hcall := redpencillaw12_has.calls A5 c5 ll ((runesOf ll).length : Int) 0 true W10 (by rw [Hn.out]; exact Kd.C_below HO5.out.2 HB6.out) (by rw [Hn.out]; exact HO5.out.1) (has_ok HL.out Hb.out)
  rw [Hn.out, Hm.out] at hcall
  refine hcall.mono ?_
  clear hcall
  rintro e W11 ⟨rfl, hb⟩
  have HB6 := Aside0.mk (below_more HB6.out hb)
  clear hb
  go_wp2_with fail
  have hcall := redpencilref10_Equal.calls 1000 A5 c5 ll A0 c0 ll true W11 (by rw [Hn.out]; exact Kd.C_below HO5.out.2 HB6.out) (by rw [Hn.out]; exact HO5.out.1) (Kd.C_below HR.out (below_more HB5.out HB6.out)) HC.out (by rw [refEqual_is _ _ (by have h2 := HL.out; omega) 1000 (by have h2 := HL.out; omega)]; simp)
  rw [Hn.out] at hcall
  refine hcall.mono ?_
  clear hcall
  rintro e W12 ⟨rfl, hdr⟩
  have HB6 := Aside0.mk (below_more HB6.out hdr.below)
  clear hdr
  go_wp2_with fail
  refine (redpencillaw12_known.calls true _ rfl).mono ?_
  rintro e W3 ⟨rfl, hd⟩
  go_wp2
  go_ret
  exact ⟨rfl, below_more (below_more HB5.out HB6.out) hd⟩
end Go.Proofs.YtjlpaagnajmogaaGreat.PWalk
end
section
namespace Go.Proofs.YtjlpaagnajmogaaGreat.indexTexts
open Go.ChangeShapes Go.WideShapes Go.ChangeAt Go.RowKit
open Go.ChangeMaps (open_string shut_string)
open Go.Proofs.YtjlpaagnajmogaaGreatW.PrintWords
set_option linter.unusedVariables false
theorem six_of {α : Type} {cs : List α} (h : cs.length = 6) : ∃ c0 c1 c2 c3 c4 c5, cs = [c0, c1, c2, c3, c4, c5] := by
 match cs, h with
 | [a, b, c, d, e, f], _ => exact ⟨a, b, c, d, e, f, rfl⟩
theorem open_node {H : Type} {enc : TypeId × Value → H} {W : World} {base : Nat} {sp : Nat → Bool} {held : Bool} {fuel : Nat} {cs : List Value} {x : DataW H × List MemPlace} (h : DataW.trod enc Tryz.prog W base sp held fuel 35 cs = some x) :
  ∃ n : PWalk.Node, cs = PWalk.nodeCells n ∧ PWalk.runeIn n.f3 := by
 have e37 : Tryz.prog.cellsOf 35 = 6 := by kernel_rfl
 have e35 : Tryz.prog.cellsOf 24 = 2 := by kernel_rfl
 have e3 : Tryz.prog.cellsOf 3 = 1 := by kernel_rfl
 have e21 : Tryz.prog.cellsOf 21 = 1 := by kernel_rfl
 obtain ⟨y0, y1, y2, y3, n, rfl, hl, h0, h1, h2, h3⟩ := Go.Joins.trod_struct4 Tryz.underlying35 h
 rw [e37] at hl
 obtain ⟨c0, c1, c2, c3, c4, c5, rfl⟩ := six_of hl
 simp only [e35, e3, e21, List.drop_zero, List.drop_succ_cons, List.take_succ_cons, List.take_zero] at h0 h1 h2 h3
 obtain ⟨_, _, _, _, _, g0, g1⟩ := trod_struct2 Tryz.underlying24 h0
 obtain ⟨_, _, _, _, _, g2, g3⟩ := trod_struct2 Tryz.underlying24 h1
 simp only [e3, List.drop_zero, List.drop_succ_cons, List.take_succ_cons, List.take_zero] at g0 g1 g2 g3
 obtain ⟨k0, i0, _, _⟩ := DataW.trod_int Tryz.underlying3 g0
 obtain ⟨k1, i1, _, _⟩ := DataW.trod_int Tryz.underlying3 g1
 obtain ⟨k2, i2, _, _⟩ := DataW.trod_int Tryz.underlying3 g2
 obtain ⟨k3, i3, _, _⟩ := DataW.trod_int Tryz.underlying3 g3
 obtain ⟨k4, i4, _, _⟩ := DataW.trod_int Tryz.underlying3 h2
 obtain ⟨k5, i5, _, hw⟩ := DataW.trod_int Tryz.underlying21 h3
 simp only [List.cons.injEq, and_true] at i0 i1 i2 i3 i4 i5
 subst i0 i1 i2 i3 i4 i5
 refine ⟨⟨⟨k0, k1⟩, ⟨k2, k3⟩, k4, k5⟩, rfl, ?_⟩
 have hw2 : -2147483648 ≤ k5 ∧ k5 ≤ 2147483647 := by simpa [Lit.wf, IntKind.min, IntKind.max, IntKind.signed, IntKind.bits] using hw
 exact ⟨by show _ ≤ k5; omega, by show k5 ≤ _; omega⟩
/-- A []api.Node that came in, nil or not. -/
theorem open_nodes {H : Type} {enc : TypeId × Value → H} {W : World} {A : Option Addr} {len cap : Nat} {x : DataW H × List MemPlace} {fuel : Nat} (h : DataW.trod enc Tryz.prog W 0 (fun _ => true) true fuel 22 [.slice A len cap] = some x) :
  ∃ xs : List PWalk.Node, xs.length = len ∧ Kd.C PWalk.k35 W A len xs ∧ len ≤ cap ∧ ∀ n ∈ xs, PWalk.runeIn n.f3 := by
 have e37 : Tryz.prog.cellsOf 35 = 6 := by kernel_rfl
 rcases Go.Deep.open_slice Tryz.underlying22 h with ⟨hcs, _⟩ | ⟨a, len', cap', m, n, D, Pl, hcs, _, hl, hm, hmm, _, hx⟩
 ·
  simp at hcs
  obtain ⟨rfl, rfl, rfl⟩ := hcs
  exact ⟨[], rfl, ⟨rfl, by omega, fun hp => absurd hp (by omega)⟩, Nat.le_refl _, fun n hn => by cases hn⟩
 ·
  simp at hcs
  obtain ⟨rfl, rfl, rfl⟩ := hcs
  simp only [if_true] at hmm
  subst hmm
  rw [e37] at hx
  haveI : Inhabited PWalk.Node := ⟨⟨⟨0, 0⟩, ⟨0, 0⟩, 0, 0⟩⟩
  obtain ⟨N, hN⟩ := Go.Deep.choose_lt (α := PWalk.Node) (n := len) (p := fun i nd => PWalk.runeIn nd.f3 ∧ ∀ j u, (PWalk.nodeCells nd)[j]? = some u → W.cell? (a.add (i * 6 + j)) = some u) (fun i hi => by
   obtain ⟨cs', h1, h2⟩ := hx i (by omega)
   obtain ⟨nd, rfl, hr⟩ := open_node h2
   refine ⟨nd, hr, fun j u hu => ?_⟩
   obtain ⟨_, hlen, hc⟩ := World.cells?_some h1
   have hj : j < 6 := (List.getElem?_eq_some_iff.1 hu).1
   rw [← Addr.add_add a (i * 6) j]
   rw [← hu]
   exact hc j (by simpa using hj))
  refine ⟨(List.range len).map N, by simp, ⟨by simp, Nat.le_trans hl hm, fun hp => ⟨a, rfl, fun i nd hi => ?_⟩⟩, hl, fun nd hnd => ?_⟩
  ·
   have hil : i < len := by simpa using (List.getElem?_eq_some_iff.1 hi).1
   have hnd : nd = N i := by simpa [hil] using hi.symm
   subst hnd
   refine ⟨PWalk.nodeCells (N i), rfl, PWalk.k35.K_of_M (PWalk.k35_mkM W 0 (fun _ => True) (N i)), fun j u hu => (hN i hil).2 j u hu⟩
  ·
   obtain ⟨i, hi, rfl⟩ := List.mem_map.1 hnd
   exact (hN i (by simpa using hi)).1
theorem own : ownKnob Tryz.prog.godebug = none := by kernel_rfl
theorem laidOut : laidOutB Tryz.prog = true := by kernel_rfl
set_option maxRecDepth 100000 in
set_option maxHeartbeats 2000000 in
theorem lifted (os : Os) (started : os.Started) (H : Type) (enc : TypeId × Value → H) :
  ReturnsInHanded {} Tryz.checked os 7 .any (Rows.indexTextsSpec.pre6 enc Tryz.prog Tryz.f7 Rows.indexTextsRow.domain false) (Rows.indexTextsSpec.post enc Tryz.prog Tryz.f7 false true false false) := by
 refine returnsInHanded_of_change_sized (C := Tryz.checked) own started (by kernel_rfl) Tryz.func7
  (ChangeSpec.witness6 (enc := enc) (C := Tryz.checked) false ⟨#[], #[.slice none 0 0], []⟩ 8 (by kernel_rfl) (by kernel_rfl) (by kernel_rfl) (by kernel_rfl)) ?_
 intro W base args ds gs before hval0 hW hcnd hsz0 _
 have hval : ∀ (j : Nat) t v, Tryz.f7.params[j]? = some t → args[j]? = some v → Value.okWide Tryz.prog W .any base t v := hval0
 have hW' := hW
 obtain ⟨p, q, hA0, hV, rfl, hfz, hnd⟩ := hW
 have hA : DataW.TrodAll enc Tryz.prog W 0 (fun _ => true) true Tryz.f7.params.toList args.toList ds p := hA0
 rw [Tryz.params7] at hA hval
 obtain ⟨v0, vs0, d0, ds0, p0, q0, hargs, rfl, rfl, h0, r0⟩ := trodAll_cons hA
 obtain ⟨rfl, rfl, rfl⟩ := trodAll_nil r0
 obtain rfl : args = #[v0] := by cases args; simp_all
 obtain ⟨rfl, rfl⟩ := trodVars_none hV
 obtain ⟨A0, len0, cap0, rfl⟩ := okWide_slice Tryz.underlying22 (hval 0 22 v0 rfl rfl)
 have k0 := h0
 have lt0 : ∀ x ∈ p0, x.block < W.heap.size := by obtain ⟨m, hm⟩ := k0; exact DataW.trod_lt m _ _ _ hm
 obtain ⟨f0, hf0⟩ := h0
 obtain ⟨xs0, rfl, hr0, hc0, hi0⟩ := open_nodes hf0
 clear hA0 hval0 hsz0
 refine (PWalk.IndexTexts.walk A0 cap0 xs0 W hr0 hc0 hi0).mono fun e W' ⟨he, bel⟩ => ?_
 subst he
 exact ⟨_, rfl, _, _, _, [], _, [], hW', trodAll_mk1 (shut_bool Tryz.underlying4 _), (trodAll_cons_mk (Below.trod laidOut (by kernel_rfl) (of_decide_eq_true (by kernel_rfl)) k0 bel lt0) trodAll_mk0), rfl, bel.frame _, fun h => by cases h⟩
theorem over : Rows.indexTextsRow.holds Tryz.pinned (OpenSpec.ofChange Rows.indexTextsSpec) :=
 OpenClaim.holds_of_wide 7 Tryz.f7 rfl rfl rfl rfl rfl rfl rfl ⟨rfl, rfl, rfl, rfl, rfl⟩ rfl rfl rfl rfl rfl (by kernel_rfl) Tryz.func7 (by kernel_rfl)
  (of_decide_eq_true (by kernel_rfl)) (by unfold Func.isWrapper; first | (rw [if_pos (by decide +kernel)]; kernel_rfl) | (rw [if_neg (by decide +kernel)]; exact ⟨rfl, rfl⟩))
  (fun os started H enc _ => lifted os started H enc)
theorem proved : Rows.IndexTextsSaid := over
#print axioms proved
end Go.Proofs.YtjlpaagnajmogaaGreat.indexTexts
end
