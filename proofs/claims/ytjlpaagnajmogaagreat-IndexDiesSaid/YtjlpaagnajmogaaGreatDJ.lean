/-
  The law IndexDies: a store in which one more visible node was killed lacks its character, and nothing else changes. Part 10 of 10.
-/
import Derived.Test.YtjlpaagnajmogaaGreatDI
import Derived.Test.YtjlpaagnajmogaaGreatRows
import Derived.WalkKit
import Derived.ProofKit
import Derived.OpenShut
import Derived.ShutString
import Derived.ChangeOld
import Derived.Below
import Derived.SizedLaws
import Derived.Deep.DeepHandedRow
import Derived.Deep.Slices
import Derived.Lib.SmallJoins
section
namespace Go.Proofs.YtjlpaagnajmogaaGreat.PWalk
open Go.RowKit Go.Proofs.YtjlpaagnajmogaaGreatW.PrintWords Go.Proofs.YtjlpaagnajmogaaGreatW.PrintLast Go.Proofs.YtjlpaagnajmogaaGreatW.PrintMore
set_option linter.unusedVariables false
set_option linter.unusedSimpArgs false
open Go.Shelf
attribute [local go_sem] Oper.semAt_some
theorem findCmp_call (x : Node) (d : Dot) (w : World) : Calls Tryz.prog 130 #[vNode x, vDot d] w fun e w' => e = .returned (.int .i64 (dotCmp x.f0 d)) ∧ Below w.heap.size w w' := by
 have hB : ((w.alloc (.cells #[.int .i64 x.f0.f0, .int .i64 x.f0.f1, .int .i64 x.f1.f0, .int .i64 x.f1.f1, .int .i64 x.f2, .int .i32 x.f3] 35 (0, 0))).alloc (.cells #[.int .i64 d.f0, .int .i64 d.f1] 24 (0, 0))).heap[w.heap.size + 1]? = some (.cells #[.int .i64 d.f0, .int .i64 d.f1] 24 (0, 0)) := by
  have := blk_new (w.alloc (.cells #[.int .i64 x.f0.f0, .int .i64 x.f0.f1, .int .i64 x.f1.f0, .int .i64 x.f1.f1, .int .i64 x.f2, .int .i32 x.f3] 35 (0, 0))) (.cells #[.int .i64 d.f0, .int .i64 d.f1] 24 (0, 0))
  rwa [show (w.alloc (.cells #[.int .i64 x.f0.f0, .int .i64 x.f0.f1, .int .i64 x.f1.f0, .int .i64 x.f1.f1, .int .i64 x.f2, .int .i32 x.f3] 35 (0, 0))).heap.size = w.heap.size + 1 by simp] at this
 have hA : ((w.alloc (.cells #[.int .i64 x.f0.f0, .int .i64 x.f0.f1, .int .i64 x.f1.f0, .int .i64 x.f1.f1, .int .i64 x.f2, .int .i32 x.f3] 35 (0, 0))).alloc (.cells #[.int .i64 d.f0, .int .i64 d.f1] 24 (0, 0))).heap[w.heap.size]? = some (.cells #[.int .i64 x.f0.f0, .int .i64 x.f0.f1, .int .i64 x.f1.f0, .int .i64 x.f1.f1, .int .i64 x.f2, .int .i32 x.f3] 35 (0, 0)) :=
  blk_keep (blk_new w (.cells #[.int .i64 x.f0.f0, .int .i64 x.f0.f1, .int .i64 x.f1.f0, .int .i64 x.f1.f1, .int .i64 x.f2, .int .i32 x.f3] 35 (0, 0))) (Gr.alloc _ _).below
 have HB := Aside0.mk (below_alloc (below_alloc (Below.refl _ w) (.cells #[.int .i64 x.f0.f0, .int .i64 x.f0.f1, .int .i64 x.f1.f0, .int .i64 x.f1.f1, .int .i64 x.f2, .int .i32 x.f3] 35 (0, 0))) (.cells #[.int .i64 d.f0, .int .i64 d.f1] 24 (0, 0)))
 have a0 := (blk_cell hA 0).trans (show _ = some (Value.int .i64 x.f0.f0) from rfl)
 have a1 := (blk_cell hA 1).trans (show _ = some (Value.int .i64 x.f0.f1) from rfl)
 have b0 := (blk_cell hB 0).trans (show _ = some (Value.int .i64 d.f0) from rfl)
 have b1 := (blk_cell hB 1).trans (show _ = some (Value.int .i64 d.f1) from rfl)
 clear hA hB
 go_enter Tryz.func130, Tryz.ntmps130
 go_wp2_with fail
 refine (dotCmp_call x.f0 d _).mono ?_
 rintro e W3 ⟨rfl, hd⟩
 have hd := hd.below
 go_wp2
 go_ret
 exact ⟨rfl, below_more HB.out hd⟩
def bnrInv (w : World) (B n c : Nat) (ad : Addr) (d : Dot) (i j h : Nat) (k : Node) (z12 z13 z14 z15 z16 z17 z18 z19 z20 z21 z22 z23 u24 u25 u26 u27 u28 u29 u30 u31 u32 u33 u34 : Value) (L : Array Bool) (ac : Act) (V : World) : Prop := ∃ (l0 l1 l2 l3 l4 l5 l6 l7 : Bool), L = #[l0, l1, l2, l3, l4, l5, l6, l7] ∧ ac = { tmps := #[.slice (some ad) n c, vDot d, .func (.func 130) #[] #[], undef, .pointer (some ⟨B, 0, none⟩), undef, .int .i64 0, .bool false, .int .i64 n, .int .i64 i, .int .i64 j, .int .i64 h, z12, z13, z14, z15, z16, z17, z18, z19, z20, z21, z22, z23, selv l0 (.func (.func 130) #[] #[]) (u24), selv l1 (.slice (some ad) n c) (u25), selv l2 (.int .i64 h) (u26), selv l3 (.pointer (some (ad.add (h * 6)))) (u27), selv l4 (vNode k) (u28), selv l5 (vDot d) (u29), selv l6 (.int .i64 (dotCmp k.f0 d)) (u30), selv l7 (.bool (decide (dotCmp k.f0 d < 0))) (u31), u32, u33, u34, undef, undef, undef, undef, undef, undef, undef, undef, undef, undef, undef, undef, undef, undef], defers := [] } ∧ Aside0 (Bs w d V)
def bntInv (w : World) (B n c : Nat) (ad : Addr) (d : Dot) (q : Nat) (k : Node) (y11 y12 y13 y14 y15 y16 y17 y18 y19 y20 y21 y22 y23 y24 y25 y26 y27 y28 y29 y30 y31 y32 y33 y34 : Value) (L : Array Bool) (ac : Act) (V : World) : Prop := ∃ (l0 l1 l2 l3 l4 l5 l6 l7 l8 l9 l10 l11 l12 l13 l14 l15 : Bool), L = #[l0, l1, l2, l3, l4, l5, l6, l7, l8, l9, l10, l11, l12, l13, l14, l15] ∧ ac = { tmps := #[.slice (some ad) n c, vDot d, .func (.func 130) #[] #[], undef, .pointer (some ⟨B, 0, none⟩), undef, selv l14 (.int .i64 q) (.int .i64 0), selv l15 (.bool (dotCmp k.f0 d == 0)) (.bool false), .int .i64 n, .int .i64 q, .int .i64 q, y11, y12, y13, y14, y15, y16, y17, y18, y19, y20, y21, y22, y23, y24, y25, y26, y27, y28, y29, y30, y31, y32, y33, y34, sel l0 (.int .i64 q), sel l1 (.int .i64 q), sel l2 (.int .i64 n), sel l3 (.bool true), sel l4 (.bool true), sel l5 (.func (.func 130) #[] #[]), sel l6 (.slice (some ad) n c), sel l7 (.int .i64 q), sel l8 (.pointer (some (ad.add (q * 6)))), sel l9 (vNode k), sel l10 (vDot d), sel l11 (.int .i64 (dotCmp k.f0 d)), sel l12 (.bool (dotCmp k.f0 d == 0)), sel l13 (.bool (dotCmp k.f0 d == 0))], defers := [] } ∧ Aside0 (Bs w d V)
def bnfInv (w : World) (A : Option Addr) (B n c : Nat) (d : Dot) (y11 y12 y13 y14 y15 y16 y17 y18 y19 y20 y21 y22 y23 y24 y25 y26 y27 y28 y29 y30 y31 y32 y33 y34 : Value) (L : Array Bool) (ac : Act) (V : World) : Prop := ∃ (l0 l1 l2 l3 l4 l5 l6 l7 l8 l9 l10 l11 l12 l13 l14 l15 : Bool), L = #[l0, l1, l2, l3, l4, l5, l6, l7, l8, l9, l10, l11, l12, l13, l14, l15] ∧ ac = { tmps := #[.slice A n c, vDot d, .func (.func 130) #[] #[], undef, .pointer (some ⟨B, 0, none⟩), undef, selv l14 (.int .i64 n) (.int .i64 0), selv l15 (.bool false) (.bool false), .int .i64 n, .int .i64 n, .int .i64 n, y11, y12, y13, y14, y15, y16, y17, y18, y19, y20, y21, y22, y23, y24, y25, y26, y27, y28, y29, y30, y31, y32, y33, y34, sel l0 (.int .i64 n), sel l1 (.int .i64 n), sel l2 (.int .i64 n), sel l3 (.bool false), sel l4 (.bool false), sel l5 (undef), sel l6 (undef), sel l7 (undef), sel l8 (undef), sel l9 (undef), sel l10 (undef), sel l11 (undef), sel l12 (undef), sel l13 (.bool false)], defers := [] } ∧ Aside0 (Bs w d V)
set_option maxHeartbeats 2000000 in
set_option maxRecDepth 100000 in
theorem bsearchN_call (ll : List Node) (A : Option Addr) (n c : Nat) (d : Dot) (w : World) (ks : List Dot) (hks : ll.map (·.f0) = ks) (hs : incB ks = true) (hl : ll.length = n) (hsm : n ≤ 1000000) (he : Kd.C k35 w A n ll) :
  Calls Tryz.prog 129 #[.slice A n c, vDot d, .func (.func 130) #[] #[]] w fun e w' => e = .returned (.tuple #[.int .i64 (posK ks d), .bool (hasK ks d)]) ∧ Below w.heap.size w w' := by
 have HE := Aside0.mk he
 have HS := Aside0.mk hs
 have hn := hsm
 have hkl : ks.length = n := by rw [← hks, List.length_map, hl]
 have HKL := Aside0.mk hkl
 have HQN : Aside0 (posK ks d ≤ n) := ⟨by rw [← hkl]; exact posK_le ks d⟩
 have HG : Aside0 (∀ h, h < n → ∃ k : Node, ks[h]? = some k.f0 ∧ ll[h]? = some k) := ⟨fun h hh => by
  obtain ⟨k, hk⟩ : ∃ k, ll[h]? = some k := ⟨_, List.getElem?_eq_getElem (by omega)⟩
  exact ⟨k, by rw [← hks, List.getElem?_map, hk]; rfl, hk⟩⟩
 clear he hs hks hl hkl hsm
 obtain ⟨q, HQ⟩ : ∃ q, Aside0 (posK ks d = q) := ⟨_, ⟨rfl⟩⟩
 obtain ⟨hf, HHF⟩ : ∃ hf, Aside0 (hasK ks d = hf) := ⟨_, ⟨rfl⟩⟩
 rw [HQ.out, HHF.out]
 rw [HQ.out] at HQN
 have HB0 : Aside0 (Bs w d (w.alloc (.cells #[.int .i64 d.f0, .int .i64 d.f1] 24 (0, 0)))) := ⟨(Gr.alloc w _).below, blk_new _ _⟩
 go_enter Tryz.func129, Tryz.ntmps129
 go_wp2
 go_loopw [9, 10] (fun i j wr => ∃ i' j' : Nat, i' ≤ q ∧ q ≤ j' ∧ j' ≤ n ∧ i = .int .i64 i' ∧ j = .int .i64 j' ∧ Aside0 (Bs w d wr)) (fun i j _ => (intOf j - intOf i).toNat)
 case atStart => exact ⟨0, n, Nat.zero_le _, HQN.out, Nat.le_refl _, rfl, rfl, HB0⟩
 case round =>
  obtain ⟨i, j, hi, hj, hjn, rfl, rfl, HB⟩ := hrel
  clear HB0
  by_cases hlt : i < j
  ·
   have hlb : decide ((i : Int) < (j : Int)) = true := decide_eq_true (by omega)
   obtain ⟨h, Hh⟩ : ∃ h : Nat, h = (i + j) / 2 := ⟨_, rfl⟩
   have hm : ((i : Int) + (j : Int)) / 2 = (h : Int) := by omega
   have HH : Aside0 (h < n) := ⟨by omega⟩
   have HIJ : Aside0 (i ≤ h ∧ h < j) := ⟨by omega⟩
   clear Hh
   obtain ⟨k, hk, hkn⟩ := HG.out _ HH.out
   obtain ⟨ad, rfl, HC⟩ := node_at HE.out (Below.refl _ w) _ k hkn
   have HC := Aside0.mk HC
   have HL : Aside0 (dotLt k.f0 d = true ↔ h < q) := ⟨by rw [← HQ.out]; exact posK_iff HS.out d hk⟩
   clear hk hkn
   go_wp2_with fail
   refine AnyOrder.wp_region (by kernel_rfl) (bnrInv w w.heap.size n c ad d i j h k (.slice (some ad) n c) (.int .i64 n) (.int .i64 n) (.int .i64 i) (.int .i64 j) (.bool true) (.int .i64 i) (.int .i64 j) (.int .i64 ((i : Int) + (j : Int))) (.int .u64 ((i : Int) + (j : Int))) (.int .u64 h) (.int .i64 h) u24 u25 u26 u27 u28 u29 u30 u31 u32 u33 u34) ⟨false, false, false, false, false, false, false, false, rfl, rfl, ⟨HB.out.drew⟩⟩ ?step ?last
   case step =>
    rintro L ac V i ⟨l0, l1, l2, l3, l4, l5, l6, l7, rfl, rfl, HF⟩ hi K hK
    have h1 : i = 0 ∨ i = 1 ∨ i = 2 ∨ i = 3 ∨ i = 4 ∨ i = 5 ∨ i = 6 ∨ i = 7 := by
     have h1 := (AnyOrder.mem_ready hi).1
     clear hi hK
     change i < 8 at h1
     omega
    rcases h1 with rfl | rfl | rfl | rfl | rfl | rfl | rfl | rfl
    ·
     obtain rfl : l0 = false := (AnyOrder.mem_ready hi).2.1
     clear hi
     refine AnyOrder.wpOp_go rfl (by rfl) ?_
     go_wp2_with fail
     exact ⟨true, l1, l2, l3, l4, l5, l6, l7, rfl, rfl, HF⟩
    ·
     obtain rfl : l1 = false := (AnyOrder.mem_ready hi).2.1
     clear hi
     refine AnyOrder.wpOp_go rfl (by rfl) ?_
     go_wp2_with fail
     exact ⟨l0, true, l2, l3, l4, l5, l6, l7, rfl, rfl, HF⟩
    ·
     obtain rfl : l2 = false := (AnyOrder.mem_ready hi).2.1
     clear hi
     refine AnyOrder.wpOp_go rfl (by rfl) ?_
     go_wp2_with fail
     exact ⟨l0, l1, true, l3, l4, l5, l6, l7, rfl, rfl, HF⟩
    ·
     obtain rfl : l3 = false := (AnyOrder.mem_ready hi).2.1
     obtain rfl : l1 = true := AnyOrder.dep (q := 0) hi rfl rfl rfl
     obtain rfl : l2 = true := AnyOrder.dep (q := 1) hi rfl rfl rfl
     clear hi
     simp only [sel_true, selv_true] at hK ⊢
     have hh := HH.out
     refine AnyOrder.wpOp_go rfl (by rfl) ?_
     go_wp2_with fail
     exact ⟨l0, true, true, true, l4, l5, l6, l7, rfl, rfl, HF⟩
    ·
     obtain rfl : l4 = false := (AnyOrder.mem_ready hi).2.1
     obtain rfl : l3 = true := AnyOrder.dep (q := 0) hi rfl rfl rfl
     clear hi
     simp only [sel_true, selv_true] at hK ⊢
     obtain ⟨q0, q1, q2, q3, q4, q5⟩ := HC.out
     have e0 := pw_cell_below HF.out.below q0
     have e1 := pw_cell_below HF.out.below q1
     have e2 := pw_cell_below HF.out.below q2
     have e3 := pw_cell_below HF.out.below q3
     have e4 := pw_cell_below HF.out.below q4
     have e5 := pw_cell_below HF.out.below q5
     clear q0 q1 q2 q3 q4 q5
     refine AnyOrder.wpOp_go rfl (by rfl) ?_
     go_wp2_with fail
     exact ⟨l0, l1, l2, true, true, l5, l6, l7, rfl, rfl, HF⟩
    ·
     obtain rfl : l5 = false := (AnyOrder.mem_ready hi).2.1
     clear hi
     have d0 : V.cell? ⟨w.heap.size, 0, none⟩ = _ := (blk_cell HF.out.box 0).trans rfl
     have d1 : V.cell? ⟨w.heap.size, 1, none⟩ = _ := (blk_cell HF.out.box 1).trans rfl
     refine AnyOrder.wpOp_go rfl (by rfl) ?_
     go_wp2_with fail
     exact ⟨l0, l1, l2, l3, l4, true, l6, l7, rfl, rfl, HF⟩
    ·
     obtain rfl : l6 = false := (AnyOrder.mem_ready hi).2.1
     obtain rfl : l0 = true := AnyOrder.dep (q := 0) hi rfl rfl rfl
     obtain rfl : l4 = true := AnyOrder.dep (q := 1) hi rfl rfl rfl
     obtain rfl : l5 = true := AnyOrder.dep (q := 2) hi rfl rfl rfl
     clear hi
     simp only [sel_true, selv_true] at hK ⊢
     refine AnyOrder.wpOp_go rfl (by rfl) ?_
     go_wp2_with fail
     refine (findCmp_call k d V).mono ?_
     rintro e V' ⟨rfl, hb⟩
     exact hK _ _ ⟨true, l1, l2, l3, true, true, true, l7, rfl, rfl, ⟨HF.out.more hb⟩⟩
    ·
     obtain rfl : l7 = false := (AnyOrder.mem_ready hi).2.1
     obtain rfl : l6 = true := AnyOrder.dep (q := 0) hi rfl rfl rfl
     clear hi
     simp only [sel_true, selv_true] at hK ⊢
     refine AnyOrder.wpOp_go rfl (by rfl) ?_
     go_wp2_with fail
     exact ⟨l0, l1, l2, l3, l4, l5, true, true, rfl, rfl, HF⟩
   case last =>
    rintro L ac V ⟨l0, l1, l2, l3, l4, l5, l6, l7, rfl, rfl, HF⟩ hr
    have hall := AnyOrder.all_listed rfl (by kernel_rfl) hr
    clear hr
    obtain rfl : l0 = true := hall 0 (by decide)
    obtain rfl : l1 = true := hall 1 (by decide)
    obtain rfl : l2 = true := hall 2 (by decide)
    obtain rfl : l3 = true := hall 3 (by decide)
    obtain rfl : l4 = true := hall 4 (by decide)
    obtain rfl : l5 = true := hall 5 (by decide)
    obtain rfl : l6 = true := hall 6 (by decide)
    obtain rfl : l7 = true := hall 7 (by decide)
    clear hall
    simp only [sel_true, selv_true]
    clear hm
    rw [dotCmp_lt]
    cases hd : dotLt k.f0 d with
    | true =>
     have hw1 : wrap64 ((h : Int) + 1) = ((h + 1 : Nat) : Int) := by unfold wrap64; have := HH.out; omega
     have h2 := HL.out.1 hd
     have HIJ2 := HIJ.out
     clear hd
     go_wp2_with fail
     refine ⟨⟨h + 1, j, by omega, hj, hjn, by (first | rfl | (rw [hw1])), rfl, HF⟩, ?_⟩
     simp [intOf]; omega
    | false =>
     have h2 : ¬ h < q := fun e => by have := HL.out.2 e; rw [hd] at this; cases this
     have HIJ2 := HIJ.out
     clear hd
     go_wp2_with fail
     refine ⟨⟨i, h, hi, by omega, by omega, rfl, rfl, HF⟩, ?_⟩
     simp [intOf]; omega
  ·
   obtain rfl : q = i := by omega
   obtain rfl : q = j := by omega
   have hlb : decide ((q : Int) < (q : Int)) = false := decide_eq_false (by omega)
   by_cases hq : q < n
   ·
    have HH := Aside0.mk hq
    obtain ⟨k, hk, hkn⟩ := HG.out _ HH.out
    obtain ⟨ad, rfl, HC⟩ := node_at HE.out (Below.refl _ w) _ k hkn
    have HC := Aside0.mk HC
    have HR : Aside0 (hf = (dotCmp k.f0 d == 0)) := ⟨by rw [← HHF.out, hasK, HQ.out, hk, dotCmp_eq]; simp⟩
    clear hk hkn
    go_wp2_with fail
    refine AnyOrder.wp_region (by kernel_rfl) (bntInv w w.heap.size n c ad d q k u11 (.slice (some ad) n c) (.int .i64 n) (.int .i64 n) (.int .i64 q) (.int .i64 q) (.bool false) u18 u19 u20 u21 u22 u23 u24 u25 u26 u27 u28 u29 u30 u31 u32 u33 u34) ⟨false, false, false, false, false, false, false, false, false, false, false, false, false, false, false, false, rfl, rfl, ⟨HB.out.drew⟩⟩ ?step ?last
    case step =>
     rintro L ac V i ⟨l0, l1, l2, l3, l4, l5, l6, l7, l8, l9, l10, l11, l12, l13, l14, l15, rfl, rfl, HF⟩ hi K hK
     have h1 : i = 0 ∨ i = 1 ∨ i = 2 ∨ i = 3 ∨ i = 4 ∨ i = 5 ∨ i = 6 ∨ i = 7 ∨ i = 8 ∨ i = 9 ∨ i = 10 ∨ i = 11 ∨ i = 12 ∨ i = 13 ∨ i = 14 ∨ i = 15 := by
      have h1 := (AnyOrder.mem_ready hi).1
      clear hi hK
      change i < 16 at h1
      omega
     rcases h1 with rfl | rfl | rfl | rfl | rfl | rfl | rfl | rfl | rfl | rfl | rfl | rfl | rfl | rfl | rfl | rfl
     ·
      obtain rfl : l0 = false := (AnyOrder.mem_ready hi).2.1
      clear hi
      refine AnyOrder.wpOp_go rfl (by rfl) ?_
      go_wp2_with fail
      exact ⟨true, l1, l2, l3, l4, l5, l6, l7, l8, l9, l10, l11, l12, l13, l14, l15, rfl, rfl, HF⟩
     ·
      obtain rfl : l1 = false := (AnyOrder.mem_ready hi).2.1
      clear hi
      refine AnyOrder.wpOp_go rfl (by rfl) ?_
      go_wp2_with fail
      exact ⟨l0, true, l2, l3, l4, l5, l6, l7, l8, l9, l10, l11, l12, l13, l14, l15, rfl, rfl, HF⟩
     ·
      obtain rfl : l2 = false := (AnyOrder.mem_ready hi).2.1
      clear hi
      refine AnyOrder.wpOp_go rfl (by rfl) ?_
      go_wp2_with fail
      exact ⟨l0, l1, true, l3, l4, l5, l6, l7, l8, l9, l10, l11, l12, l13, l14, l15, rfl, rfl, HF⟩
     ·
      obtain rfl : l3 = false := (AnyOrder.mem_ready hi).2.1
      obtain rfl : l1 = true := AnyOrder.dep (q := 0) hi rfl rfl rfl
      obtain rfl : l2 = true := AnyOrder.dep (q := 1) hi rfl rfl rfl
      clear hi
      simp only [sel_true, selv_true] at hK ⊢
      have hh : decide ((q : Int) < (n : Int)) = true := decide_eq_true (by have := HH.out; omega)
      refine AnyOrder.wpOp_go rfl (by rfl) ?_
      go_wp2_with fail
      exact ⟨l0, true, true, true, l4, l5, l6, l7, l8, l9, l10, l11, l12, l13, l14, l15, rfl, rfl, HF⟩
     ·
      obtain rfl : l4 = false := (AnyOrder.mem_ready hi).2.1
      obtain rfl : l3 = true := AnyOrder.dep (q := 0) hi rfl rfl rfl
      clear hi
      simp only [sel_true, selv_true] at hK ⊢
      refine AnyOrder.wpOp_go rfl (by rfl) ?_
      go_wp2_with fail
      exact ⟨l0, l1, l2, true, true, l5, l6, l7, l8, l9, l10, l11, l12, l13, l14, l15, rfl, rfl, HF⟩
     ·
      obtain rfl : l5 = false := (AnyOrder.mem_ready hi).2.1
      obtain rfl : l4 = true := AnyOrder.dep (q := 0) hi rfl rfl rfl
      clear hi
      simp only [sel_true, selv_true] at hK ⊢
      refine AnyOrder.wpOp_go rfl (by rfl) ?_
      go_wp2_with fail
      exact ⟨l0, l1, l2, l3, true, true, l6, l7, l8, l9, l10, l11, l12, l13, l14, l15, rfl, rfl, HF⟩
     ·
      obtain rfl : l6 = false := (AnyOrder.mem_ready hi).2.1
      obtain rfl : l4 = true := AnyOrder.dep (q := 0) hi rfl rfl rfl
      clear hi
      simp only [sel_true, selv_true] at hK ⊢
      refine AnyOrder.wpOp_go rfl (by rfl) ?_
      go_wp2_with fail
      exact ⟨l0, l1, l2, l3, true, l5, true, l7, l8, l9, l10, l11, l12, l13, l14, l15, rfl, rfl, HF⟩
     ·
      obtain rfl : l7 = false := (AnyOrder.mem_ready hi).2.1
      obtain rfl : l4 = true := AnyOrder.dep (q := 0) hi rfl rfl rfl
      clear hi
      simp only [sel_true, selv_true] at hK ⊢
      refine AnyOrder.wpOp_go rfl (by rfl) ?_
      go_wp2_with fail
      exact ⟨l0, l1, l2, l3, true, l5, l6, true, l8, l9, l10, l11, l12, l13, l14, l15, rfl, rfl, HF⟩
     ·
      obtain rfl : l8 = false := (AnyOrder.mem_ready hi).2.1
      obtain rfl : l6 = true := AnyOrder.dep (q := 0) hi rfl rfl rfl
      obtain rfl : l7 = true := AnyOrder.dep (q := 1) hi rfl rfl rfl
      obtain rfl : l4 = true := AnyOrder.dep (q := 2) hi rfl rfl rfl
      clear hi
      simp only [sel_true, selv_true] at hK ⊢
      have hh := HH.out
      refine AnyOrder.wpOp_go rfl (by rfl) ?_
      go_wp2_with fail
      exact ⟨l0, l1, l2, l3, true, l5, true, true, true, l9, l10, l11, l12, l13, l14, l15, rfl, rfl, HF⟩
     ·
      obtain rfl : l9 = false := (AnyOrder.mem_ready hi).2.1
      obtain rfl : l8 = true := AnyOrder.dep (q := 0) hi rfl rfl rfl
      obtain rfl : l4 = true := AnyOrder.dep (q := 1) hi rfl rfl rfl
      clear hi
      simp only [sel_true, selv_true] at hK ⊢
      obtain ⟨q0, q1, q2, q3, q4, q5⟩ := HC.out
      have e0 := pw_cell_below HF.out.below q0
      have e1 := pw_cell_below HF.out.below q1
      have e2 := pw_cell_below HF.out.below q2
      have e3 := pw_cell_below HF.out.below q3
      have e4 := pw_cell_below HF.out.below q4
      have e5 := pw_cell_below HF.out.below q5
      clear q0 q1 q2 q3 q4 q5
      refine AnyOrder.wpOp_go rfl (by rfl) ?_
      go_wp2_with fail
      exact ⟨l0, l1, l2, l3, true, l5, l6, l7, true, true, l10, l11, l12, l13, l14, l15, rfl, rfl, HF⟩
     ·
      obtain rfl : l10 = false := (AnyOrder.mem_ready hi).2.1
      obtain rfl : l4 = true := AnyOrder.dep (q := 0) hi rfl rfl rfl
      clear hi
      simp only [sel_true, selv_true] at hK ⊢
      have d0 : V.cell? ⟨w.heap.size, 0, none⟩ = _ := (blk_cell HF.out.box 0).trans rfl
      have d1 : V.cell? ⟨w.heap.size, 1, none⟩ = _ := (blk_cell HF.out.box 1).trans rfl
      refine AnyOrder.wpOp_go rfl (by rfl) ?_
      go_wp2_with fail
      exact ⟨l0, l1, l2, l3, true, l5, l6, l7, l8, l9, true, l11, l12, l13, l14, l15, rfl, rfl, HF⟩
     ·
      obtain rfl : l11 = false := (AnyOrder.mem_ready hi).2.1
      obtain rfl : l5 = true := AnyOrder.dep (q := 0) hi rfl rfl rfl
      obtain rfl : l9 = true := AnyOrder.dep (q := 1) hi rfl rfl rfl
      obtain rfl : l10 = true := AnyOrder.dep (q := 2) hi rfl rfl rfl
      obtain rfl : l4 = true := AnyOrder.dep (q := 3) hi rfl rfl rfl
      clear hi
      simp only [sel_true, selv_true] at hK ⊢
      refine AnyOrder.wpOp_go rfl (by rfl) ?_
      go_wp2_with fail
      refine (findCmp_call k d V).mono ?_
      rintro e V' ⟨rfl, hb⟩
      exact hK _ _ ⟨l0, l1, l2, l3, true, true, l6, l7, l8, true, true, true, l12, l13, l14, l15, rfl, rfl, ⟨HF.out.more hb⟩⟩
     ·
      obtain rfl : l12 = false := (AnyOrder.mem_ready hi).2.1
      obtain rfl : l11 = true := AnyOrder.dep (q := 0) hi rfl rfl rfl
      obtain rfl : l4 = true := AnyOrder.dep (q := 1) hi rfl rfl rfl
      clear hi
      simp only [sel_true, selv_true] at hK ⊢
      refine AnyOrder.wpOp_go rfl (by rfl) ?_
      go_wp2_with fail
      exact ⟨l0, l1, l2, l3, true, l5, l6, l7, l8, l9, l10, true, true, l13, l14, l15, rfl, rfl, HF⟩
     ·
      obtain rfl : l13 = false := (AnyOrder.mem_ready hi).2.1
      obtain rfl : l4 = true := AnyOrder.dep (q := 0) hi rfl rfl rfl
      obtain rfl : l12 = true := AnyOrder.dep (q := 1) hi rfl rfl rfl
      clear hi
      simp only [sel_true, selv_true] at hK ⊢
      refine AnyOrder.wpOp_go rfl (by rfl) ?_
      go_wp2_with fail
      exact ⟨l0, l1, l2, l3, true, l5, l6, l7, l8, l9, l10, l11, true, true, l14, l15, rfl, rfl, HF⟩
     ·
      obtain rfl : l14 = false := (AnyOrder.mem_ready hi).2.1
      obtain rfl : l0 = true := AnyOrder.dep (q := 0) hi rfl rfl rfl
      obtain rfl : l11 = true := AnyOrder.dep (q := 1) hi rfl rfl rfl
      clear hi
      simp only [sel_true, selv_true] at hK ⊢
      refine AnyOrder.wpOp_go rfl (by rfl) ?_
      go_wp2_with fail
      exact ⟨true, l1, l2, l3, l4, l5, l6, l7, l8, l9, l10, true, l12, l13, true, l15, rfl, rfl, HF⟩
     ·
      obtain rfl : l15 = false := (AnyOrder.mem_ready hi).2.1
      obtain rfl : l13 = true := AnyOrder.dep (q := 0) hi rfl rfl rfl
      obtain rfl : l14 = true := AnyOrder.dep (q := 1) hi rfl rfl rfl
      obtain rfl : l0 = true := AnyOrder.dep (q := 2) hi rfl rfl rfl
      obtain rfl : l1 = true := AnyOrder.dep (q := 3) hi rfl rfl rfl
      obtain rfl : l2 = true := AnyOrder.dep (q := 4) hi rfl rfl rfl
      obtain rfl : l3 = true := AnyOrder.dep (q := 5) hi rfl rfl rfl
      obtain rfl : l4 = true := AnyOrder.dep (q := 6) hi rfl rfl rfl
      obtain rfl : l5 = true := AnyOrder.dep (q := 7) hi rfl rfl rfl
      obtain rfl : l6 = true := AnyOrder.dep (q := 8) hi rfl rfl rfl
      obtain rfl : l7 = true := AnyOrder.dep (q := 9) hi rfl rfl rfl
      obtain rfl : l8 = true := AnyOrder.dep (q := 10) hi rfl rfl rfl
      obtain rfl : l9 = true := AnyOrder.dep (q := 11) hi rfl rfl rfl
      obtain rfl : l10 = true := AnyOrder.dep (q := 12) hi rfl rfl rfl
      obtain rfl : l11 = true := AnyOrder.dep (q := 13) hi rfl rfl rfl
      obtain rfl : l12 = true := AnyOrder.dep (q := 14) hi rfl rfl rfl
      clear hi
      simp only [sel_true, selv_true] at hK ⊢
      refine AnyOrder.wpOp_go rfl (by rfl) ?_
      go_wp2_with fail
      exact ⟨true, true, true, true, true, true, true, true, true, true, true, true, true, true, true, true, rfl, rfl, HF⟩
    case last =>
     rintro L ac V ⟨l0, l1, l2, l3, l4, l5, l6, l7, l8, l9, l10, l11, l12, l13, l14, l15, rfl, rfl, HF⟩ hr
     have hall := AnyOrder.all_listed rfl (by kernel_rfl) hr
     clear hr
     obtain rfl : l0 = true := hall 0 (by decide)
     obtain rfl : l1 = true := hall 1 (by decide)
     obtain rfl : l2 = true := hall 2 (by decide)
     obtain rfl : l3 = true := hall 3 (by decide)
     obtain rfl : l4 = true := hall 4 (by decide)
     obtain rfl : l5 = true := hall 5 (by decide)
     obtain rfl : l6 = true := hall 6 (by decide)
     obtain rfl : l7 = true := hall 7 (by decide)
     obtain rfl : l8 = true := hall 8 (by decide)
     obtain rfl : l9 = true := hall 9 (by decide)
     obtain rfl : l10 = true := hall 10 (by decide)
     obtain rfl : l11 = true := hall 11 (by decide)
     obtain rfl : l12 = true := hall 12 (by decide)
     obtain rfl : l13 = true := hall 13 (by decide)
     obtain rfl : l14 = true := hall 14 (by decide)
     obtain rfl : l15 = true := hall 15 (by decide)
     clear hall
     simp only [sel_true, selv_true]
     go_wp2
     refine bodyPost_ret (results_tmp2 rfl _ _ _) rfl ?_
     exact ⟨by rw [HR.out]; rfl, HF.out.below⟩
   ·
    obtain rfl : n = q := by omega
    have HR : Aside0 (hf = false) := ⟨by rw [← HHF.out, hasK, HQ.out, List.getElem?_eq_none (by rw [HKL.out]; exact Nat.le_refl _)]; rfl⟩
    go_wp2_with fail
    refine AnyOrder.wp_region (by kernel_rfl) (bnfInv w A w.heap.size n c d u11 (.slice A n c) (.int .i64 n) (.int .i64 n) (.int .i64 n) (.int .i64 n) (.bool false) u18 u19 u20 u21 u22 u23 u24 u25 u26 u27 u28 u29 u30 u31 u32 u33 u34) ⟨false, false, false, false, false, false, false, false, false, false, false, false, false, false, false, false, rfl, rfl, ⟨HB.out.drew⟩⟩ ?step ?last
    case step =>
     rintro L ac V i ⟨l0, l1, l2, l3, l4, l5, l6, l7, l8, l9, l10, l11, l12, l13, l14, l15, rfl, rfl, HF⟩ hi K hK
     have h1 : i = 0 ∨ i = 1 ∨ i = 2 ∨ i = 3 ∨ i = 4 ∨ i = 5 ∨ i = 6 ∨ i = 7 ∨ i = 8 ∨ i = 9 ∨ i = 10 ∨ i = 11 ∨ i = 12 ∨ i = 13 ∨ i = 14 ∨ i = 15 := by
      have h1 := (AnyOrder.mem_ready hi).1
      clear hi hK
      change i < 16 at h1
      omega
     rcases h1 with rfl | rfl | rfl | rfl | rfl | rfl | rfl | rfl | rfl | rfl | rfl | rfl | rfl | rfl | rfl | rfl
     ·
      obtain rfl : l0 = false := (AnyOrder.mem_ready hi).2.1
      clear hi
      refine AnyOrder.wpOp_go rfl (by rfl) ?_
      go_wp2_with fail
      exact ⟨true, l1, l2, l3, l4, l5, l6, l7, l8, l9, l10, l11, l12, l13, l14, l15, rfl, rfl, HF⟩
     ·
      obtain rfl : l1 = false := (AnyOrder.mem_ready hi).2.1
      clear hi
      refine AnyOrder.wpOp_go rfl (by rfl) ?_
      go_wp2_with fail
      exact ⟨l0, true, l2, l3, l4, l5, l6, l7, l8, l9, l10, l11, l12, l13, l14, l15, rfl, rfl, HF⟩
     ·
      obtain rfl : l2 = false := (AnyOrder.mem_ready hi).2.1
      clear hi
      refine AnyOrder.wpOp_go rfl (by rfl) ?_
      go_wp2_with fail
      exact ⟨l0, l1, true, l3, l4, l5, l6, l7, l8, l9, l10, l11, l12, l13, l14, l15, rfl, rfl, HF⟩
     ·
      obtain rfl : l3 = false := (AnyOrder.mem_ready hi).2.1
      obtain rfl : l1 = true := AnyOrder.dep (q := 0) hi rfl rfl rfl
      obtain rfl : l2 = true := AnyOrder.dep (q := 1) hi rfl rfl rfl
      clear hi
      simp only [sel_true, selv_true] at hK ⊢
      have hh : decide ((n : Int) < (n : Int)) = false := decide_eq_false (by omega)
      refine AnyOrder.wpOp_go rfl (by rfl) ?_
      go_wp2_with fail
      exact ⟨l0, true, true, true, l4, l5, l6, l7, l8, l9, l10, l11, l12, l13, l14, l15, rfl, rfl, HF⟩
     ·
      obtain rfl : l4 = false := (AnyOrder.mem_ready hi).2.1
      obtain rfl : l3 = true := AnyOrder.dep (q := 0) hi rfl rfl rfl
      clear hi
      simp only [sel_true, selv_true] at hK ⊢
      refine AnyOrder.wpOp_go rfl (by rfl) ?_
      go_wp2_with fail
      exact ⟨l0, l1, l2, true, true, l5, l6, l7, l8, l9, l10, l11, l12, l13, l14, l15, rfl, rfl, HF⟩
     ·
      obtain rfl : l5 = false := (AnyOrder.mem_ready hi).2.1
      obtain rfl : l4 = true := AnyOrder.dep (q := 0) hi rfl rfl rfl
      clear hi
      simp only [sel_true, selv_true] at hK ⊢
      refine AnyOrder.wpOp_out rfl (by rfl) ?_
      exact hK _ _ ⟨l0, l1, l2, l3, true, true, l6, l7, l8, l9, l10, l11, l12, l13, l14, l15, rfl, rfl, HF⟩
     ·
      obtain rfl : l6 = false := (AnyOrder.mem_ready hi).2.1
      obtain rfl : l4 = true := AnyOrder.dep (q := 0) hi rfl rfl rfl
      clear hi
      simp only [sel_true, selv_true] at hK ⊢
      refine AnyOrder.wpOp_out rfl (by rfl) ?_
      exact hK _ _ ⟨l0, l1, l2, l3, true, l5, true, l7, l8, l9, l10, l11, l12, l13, l14, l15, rfl, rfl, HF⟩
     ·
      obtain rfl : l7 = false := (AnyOrder.mem_ready hi).2.1
      obtain rfl : l4 = true := AnyOrder.dep (q := 0) hi rfl rfl rfl
      clear hi
      simp only [sel_true, selv_true] at hK ⊢
      refine AnyOrder.wpOp_out rfl (by rfl) ?_
      exact hK _ _ ⟨l0, l1, l2, l3, true, l5, l6, true, l8, l9, l10, l11, l12, l13, l14, l15, rfl, rfl, HF⟩
     ·
      obtain rfl : l8 = false := (AnyOrder.mem_ready hi).2.1
      obtain rfl : l4 = true := AnyOrder.dep (q := 2) hi rfl rfl rfl
      clear hi
      simp only [sel_true, selv_true] at hK ⊢
      refine AnyOrder.wpOp_out rfl (by rfl) ?_
      exact hK _ _ ⟨l0, l1, l2, l3, true, l5, l6, l7, true, l9, l10, l11, l12, l13, l14, l15, rfl, rfl, HF⟩
     ·
      obtain rfl : l9 = false := (AnyOrder.mem_ready hi).2.1
      obtain rfl : l4 = true := AnyOrder.dep (q := 1) hi rfl rfl rfl
      clear hi
      simp only [sel_true, selv_true] at hK ⊢
      refine AnyOrder.wpOp_out rfl (by rfl) ?_
      exact hK _ _ ⟨l0, l1, l2, l3, true, l5, l6, l7, l8, true, l10, l11, l12, l13, l14, l15, rfl, rfl, HF⟩
     ·
      obtain rfl : l10 = false := (AnyOrder.mem_ready hi).2.1
      obtain rfl : l4 = true := AnyOrder.dep (q := 0) hi rfl rfl rfl
      clear hi
      simp only [sel_true, selv_true] at hK ⊢
      refine AnyOrder.wpOp_out rfl (by rfl) ?_
      exact hK _ _ ⟨l0, l1, l2, l3, true, l5, l6, l7, l8, l9, true, l11, l12, l13, l14, l15, rfl, rfl, HF⟩
     ·
      obtain rfl : l11 = false := (AnyOrder.mem_ready hi).2.1
      obtain rfl : l4 = true := AnyOrder.dep (q := 3) hi rfl rfl rfl
      clear hi
      simp only [sel_true, selv_true] at hK ⊢
      refine AnyOrder.wpOp_out rfl (by rfl) ?_
      exact hK _ _ ⟨l0, l1, l2, l3, true, l5, l6, l7, l8, l9, l10, true, l12, l13, l14, l15, rfl, rfl, HF⟩
     ·
      obtain rfl : l12 = false := (AnyOrder.mem_ready hi).2.1
      obtain rfl : l4 = true := AnyOrder.dep (q := 1) hi rfl rfl rfl
      clear hi
      simp only [sel_true, selv_true] at hK ⊢
      refine AnyOrder.wpOp_out rfl (by rfl) ?_
      exact hK _ _ ⟨l0, l1, l2, l3, true, l5, l6, l7, l8, l9, l10, l11, true, l13, l14, l15, rfl, rfl, HF⟩
     ·
      obtain rfl : l13 = false := (AnyOrder.mem_ready hi).2.1
      obtain rfl : l4 = true := AnyOrder.dep (q := 0) hi rfl rfl rfl
      obtain rfl : l12 = true := AnyOrder.dep (q := 1) hi rfl rfl rfl
      clear hi
      simp only [sel_true, selv_true] at hK ⊢
      refine AnyOrder.wpOp_go rfl (by rfl) ?_
      go_wp2_with fail
      exact ⟨l0, l1, l2, l3, true, l5, l6, l7, l8, l9, l10, l11, true, true, l14, l15, rfl, rfl, HF⟩
     ·
      obtain rfl : l14 = false := (AnyOrder.mem_ready hi).2.1
      obtain rfl : l0 = true := AnyOrder.dep (q := 0) hi rfl rfl rfl
      obtain rfl : l11 = true := AnyOrder.dep (q := 1) hi rfl rfl rfl
      clear hi
      simp only [sel_true, selv_true] at hK ⊢
      refine AnyOrder.wpOp_go rfl (by rfl) ?_
      go_wp2_with fail
      exact ⟨true, l1, l2, l3, l4, l5, l6, l7, l8, l9, l10, true, l12, l13, true, l15, rfl, rfl, HF⟩
     ·
      obtain rfl : l15 = false := (AnyOrder.mem_ready hi).2.1
      obtain rfl : l13 = true := AnyOrder.dep (q := 0) hi rfl rfl rfl
      obtain rfl : l14 = true := AnyOrder.dep (q := 1) hi rfl rfl rfl
      obtain rfl : l0 = true := AnyOrder.dep (q := 2) hi rfl rfl rfl
      obtain rfl : l1 = true := AnyOrder.dep (q := 3) hi rfl rfl rfl
      obtain rfl : l2 = true := AnyOrder.dep (q := 4) hi rfl rfl rfl
      obtain rfl : l3 = true := AnyOrder.dep (q := 5) hi rfl rfl rfl
      obtain rfl : l4 = true := AnyOrder.dep (q := 6) hi rfl rfl rfl
      obtain rfl : l5 = true := AnyOrder.dep (q := 7) hi rfl rfl rfl
      obtain rfl : l6 = true := AnyOrder.dep (q := 8) hi rfl rfl rfl
      obtain rfl : l7 = true := AnyOrder.dep (q := 9) hi rfl rfl rfl
      obtain rfl : l8 = true := AnyOrder.dep (q := 10) hi rfl rfl rfl
      obtain rfl : l9 = true := AnyOrder.dep (q := 11) hi rfl rfl rfl
      obtain rfl : l10 = true := AnyOrder.dep (q := 12) hi rfl rfl rfl
      obtain rfl : l11 = true := AnyOrder.dep (q := 13) hi rfl rfl rfl
      obtain rfl : l12 = true := AnyOrder.dep (q := 14) hi rfl rfl rfl
      clear hi
      simp only [sel_true, selv_true] at hK ⊢
      refine AnyOrder.wpOp_go rfl (by rfl) ?_
      go_wp2_with fail
      exact ⟨true, true, true, true, true, true, true, true, true, true, true, true, true, true, true, true, rfl, rfl, HF⟩
    case last =>
     rintro L ac V ⟨l0, l1, l2, l3, l4, l5, l6, l7, l8, l9, l10, l11, l12, l13, l14, l15, rfl, rfl, HF⟩ hr
     have hall := AnyOrder.all_listed rfl (by kernel_rfl) hr
     clear hr
     obtain rfl : l0 = true := hall 0 (by decide)
     obtain rfl : l1 = true := hall 1 (by decide)
     obtain rfl : l2 = true := hall 2 (by decide)
     obtain rfl : l3 = true := hall 3 (by decide)
     obtain rfl : l4 = true := hall 4 (by decide)
     obtain rfl : l5 = true := hall 5 (by decide)
     obtain rfl : l6 = true := hall 6 (by decide)
     obtain rfl : l7 = true := hall 7 (by decide)
     obtain rfl : l8 = true := hall 8 (by decide)
     obtain rfl : l9 = true := hall 9 (by decide)
     obtain rfl : l10 = true := hall 10 (by decide)
     obtain rfl : l11 = true := hall 11 (by decide)
     obtain rfl : l12 = true := hall 12 (by decide)
     obtain rfl : l13 = true := hall 13 (by decide)
     obtain rfl : l14 = true := hall 14 (by decide)
     obtain rfl : l15 = true := hall 15 (by decide)
     clear hall
     simp only [sel_true, selv_true]
     go_wp2
     refine bodyPost_ret (results_tmp2 rfl _ _ _) rfl ?_
     exact ⟨by rw [HR.out]; rfl, HF.out.below⟩
end Go.Proofs.YtjlpaagnajmogaaGreat.PWalk
end
section
namespace Go.Proofs.YtjlpaagnajmogaaGreat.PWalk
open Go.RowKit Go.Proofs.YtjlpaagnajmogaaGreatW.PrintWords Go.Proofs.YtjlpaagnajmogaaGreatW.PrintLast Go.Proofs.YtjlpaagnajmogaaGreatW.PrintMore
set_option linter.unusedVariables false
set_option linter.unusedSimpArgs false
open Go.Shelf
attribute [local go_sem] Oper.semAt_some
set_option maxHeartbeats 2000000 in
set_option maxRecDepth 100000 in
theorem storefind_call (ll : List Node) (A : Option Addr) (n c : Nat) (d : Dot) (w : World) (ks : List Dot) (hks : ll.map (·.f0) = ks) (hs : incB ks = true) (hl : ll.length = n) (hsm : n ≤ 1000000) (he : Kd.C k35 w A n ll) :
  Calls Tryz.prog 97 #[.slice A n c, vDot d] w fun e w' => e = .returned (.tuple #[.int .i64 (posK ks d), .bool (hasK ks d)]) ∧ Below w.heap.size w w' := by
 have HX := Aside0.mk (blk_new w (dotC d))
 have HB := Aside0.mk (Gr.alloc w (dotC d)).below
 have HBS := Aside0.mk (bsearchN_call ll A n c d (w.alloc (dotC d)) ks hks hs hl hsm (Kd.C_below he HB.out))
 obtain ⟨q, HQ⟩ : ∃ q, Aside0 (posK ks d = q) := ⟨_, ⟨rfl⟩⟩
 obtain ⟨hf, HHF⟩ : ∃ hf, Aside0 (hasK ks d = hf) := ⟨_, ⟨rfl⟩⟩
 rw [HQ.out, HHF.out] at HBS ⊢
 clear hks hs hl hsm he
 have x0 : (w.alloc (dotC d)).cell? ⟨w.heap.size, 0, none⟩ = _ := (blk_cell HX.out 0).trans rfl
 have x1 : (w.alloc (dotC d)).cell? ⟨w.heap.size, 1, none⟩ = _ := (blk_cell HX.out 1).trans rfl
 go_enter Tryz.func97, Tryz.ntmps97
 go_wp2_with fail
 refine HBS.out.mono ?_
 rintro e V ⟨rfl, hb⟩
 have HB := Aside0.mk (below_more HB.out hb)
 clear hb x0 x1
 go_wp2
 refine bodyPost_ret (results_tmp2 rfl _ _ _) rfl ?_
 exact ⟨rfl, HB.out⟩
theorem find_in {ll : List Node} (hs : storeOk ll = true) {k : Nat} {x : Node} (hk : ll[k]? = some x) : posK (ll.map (·.f0)) x.f0 = k ∧ hasK (ll.map (·.f0)) x.f0 = true := by
 have hi : incB (ll.map (·.f0)) = true := by
  unfold storeOk at hs
  rw [Bool.and_eq_true] at hs
  exact hs.2
 have hks : (ll.map (·.f0))[k]? = some x.f0 := by rw [List.getElem?_map, hk]; rfl
 have hnot : ¬ k < posK (ll.map (·.f0)) x.f0 := fun h => by
  have := (posK_iff hi x.f0 hks).2 h
  rw [dotLt_irrefl] at this; cases this
 have hle : ∀ j, j < k → j < posK (ll.map (·.f0)) x.f0 := fun j hj => by
  have hkl := (List.getElem?_eq_some_iff.1 hk).1
  have hjl : j < ll.length := by omega
  have hy : ll[j]? = some ll[j] := List.getElem?_eq_getElem hjl
  have hyk : (ll.map (·.f0))[j]? = some (ll[j]).f0 := by rw [List.getElem?_map, hy]; rfl
  refine (posK_iff hi x.f0 hyk).1 ?_
  have hinc := (store_of hs).inc
  unfold Inc at hinc
  have := List.pairwise_iff_getElem.1 hinc j k hjl hkl hj
  rw [show ll[k] = x from (List.getElem?_eq_some_iff.1 hk).2] at this
  exact this
 have hp : posK (ll.map (·.f0)) x.f0 = k := by
  by_cases h0 : k = 0
  ·
   omega
  ·
   have := hle (k - 1) (by omega)
   omega
 refine ⟨hp, ?_⟩
 unfold hasK
 rw [hp, hks]
 exact decide_eq_true rfl
end Go.Proofs.YtjlpaagnajmogaaGreat.PWalk
end
section
namespace Go.Proofs.YtjlpaagnajmogaaGreat.PWalk
open Go.RowKit Go.Proofs.YtjlpaagnajmogaaGreatW.PrintWords Go.Proofs.YtjlpaagnajmogaaGreatW.PrintLast Go.Proofs.YtjlpaagnajmogaaGreatW.PrintMore
set_option linter.unusedVariables false
set_option linter.unusedSimpArgs false
def node_Kill.f (a0_0 : Int) (a0_1 : Int) (a0_2 : Int) (a0_3 : Int) (a0_4 : Int) (a0_5 : Int) : Option (Int × Int × Int × Int × Int × Int) := some (a0_0, a0_1, a0_2, a0_3, a0_4, 0)
set_option maxHeartbeats 8000000 in
set_option maxRecDepth 100000 in
theorem node_Kill.calls (a0_0 : Int) (a0_1 : Int) (a0_2 : Int) (a0_3 : Int) (a0_4 : Int) (a0_5 : Int) (r1 : Int) (r2 : Int) (r3 : Int) (r4 : Int) (r5 : Int) (r6 : Int) (w : World) (h : node_Kill.f a0_0 a0_1 a0_2 a0_3 a0_4 a0_5 = some (r1, r2, r3, r4, r5, r6)) :
  Calls Tryz.prog 103 #[.agg #[.int .i64 a0_0, .int .i64 a0_1, .int .i64 a0_2, .int .i64 a0_3, .int .i64 a0_4, .int .i32 a0_5]] w fun e w' => e = .returned (.agg #[.int .i64 r1, .int .i64 r2, .int .i64 r3, .int .i64 r4, .int .i64 r5, .int .i32 r6]) ∧ Below w.heap.size w w' := by
 have hu35 := Tryz.underlying35
 have HB := Aside0.mk (Below.refl w.heap.size w)
 have H : (some (a0_0, a0_1, a0_2, a0_3, a0_4, 0)) = some (r1, r2, r3, r4, r5, r6) := h
 clear h
 simp only [Option.some.injEq, Prod.mk.injEq] at H
 obtain ⟨rfl, rfl, rfl, rfl, rfl, rfl⟩ := H
 go_enter Tryz.func103, Tryz.ntmps103
 go_wp2_with (first | ((with_reducible refine gate_dst (N := 1) rfl ?_); refine box_event ?hg (N := 1) ?hd (cs := #[.int .i64 a0_0, .int .i64 a0_1, .int .i64 a0_2, .int .i64 a0_3, .int .i64 a0_4, .int .i32 a0_5]) (t := 35) ?hr ?_; (case hd => rfl); (case hg => rfl); (case hr => first | (go_simp; done) | (go_simp; rfl)); intro gb292 hg w2 hbox hb; have n0_ := Aside0.mk (below_step (by repeat (first | (with_reducible first | exact HB.out | apply below_alloc | apply pw_below_drewN | apply below_drew1) | exact HB.out)) hb); have n1_ := Aside0.mk (hbox); have n2_ := Aside0.mk ((by rw [hg]; exact (below_size (by repeat (first | (with_reducible first | exact HB.out | apply below_alloc | apply pw_below_drewN | apply below_drew1) | exact HB.out))) : w.heap.size ≤ gb292)); have n3_ := Aside0.mk ((by rw [hg]; exact (below_size (by repeat (first | (with_reducible first | exact HB.out | apply below_alloc | apply pw_below_drewN | apply below_drew1) | exact HB.out))) : w.heap.size ≤ gb292)); clear HB; have HB := n0_; have BK292 := n1_; have GW292 := n2_; have GE292 := n3_; clear n0_ n1_ n2_ n3_; clear hb hbox hg) | ((with_reducible refine gate_dst (N := 2) rfl ?_); refine box_event ?hg (N := 2) ?hd (cs := #[.int .i64 0, .int .i64 0, .int .i64 0, .int .i64 0, .int .i64 0, .int .i32 0]) (t := 35) ?hr ?_; (case hd => rfl); (case hg => rfl); (case hr => first | (go_simp; done) | (go_simp; rfl)); intro gb293 hg w3 hbox hb; have n0_ := Aside0.mk (blk_below (g := gb292) (o := .cells #[.int .i64 a0_0, .int .i64 a0_1, .int .i64 a0_2, .int .i64 a0_3, .int .i64 a0_4, .int .i32 a0_5] 35 (0, 0)) (by (with_reducible repeat (first | refine blk_drewN ?_ _ | refine blk_drew ?_ | refine blk_alloc ?_ _)); exact BK292.out) hb); have n1_ := Aside0.mk (below_step (by repeat (first | (with_reducible first | exact HB.out | apply below_alloc | apply pw_below_drewN | apply below_drew1 | refine below_set ?_ GE292.out) | exact HB.out)) hb); have n2_ := Aside0.mk (hbox); have n3_ := Aside0.mk ((by rw [hg]; exact (below_size (by repeat (first | (with_reducible first | exact HB.out | apply below_alloc | apply pw_below_drewN | apply below_drew1 | refine below_set ?_ GE292.out) | exact HB.out))) : w.heap.size ≤ gb293)); have n4_ := Aside0.mk ((by rw [hg]; exact (below_size (by repeat (first | (with_reducible first | exact HB.out | apply below_alloc | apply pw_below_drewN | apply below_drew1 | refine below_set ?_ GE292.out) | exact HB.out))) : w.heap.size ≤ gb293)); have n5_ := Aside0.mk ((by rw [hg]; exact Nat.ne_of_lt (blk_lt (g := gb292) (o := .cells #[.int .i64 a0_0, .int .i64 a0_1, .int .i64 a0_2, .int .i64 a0_3, .int .i64 a0_4, .int .i32 a0_5] 35 (0, 0)) (by (with_reducible repeat (first | refine blk_drewN ?_ _ | refine blk_drew ?_ | refine blk_alloc ?_ _)); exact BK292.out)) : gb292 ≠ gb293)); have n6_ := Aside0.mk ((by rw [hg]; exact Nat.ne_of_gt (blk_lt (g := gb292) (o := .cells #[.int .i64 a0_0, .int .i64 a0_1, .int .i64 a0_2, .int .i64 a0_3, .int .i64 a0_4, .int .i32 a0_5] 35 (0, 0)) (by (with_reducible repeat (first | refine blk_drewN ?_ _ | refine blk_drew ?_ | refine blk_alloc ?_ _)); exact BK292.out)) : gb293 ≠ gb292)); clear BK292; clear HB; have BK292 := n0_; have HB := n1_; have BK293 := n2_; have GW293 := n3_; have GE293 := n4_; have NB292_293 := n5_; have NB293_292 := n6_; clear n0_ n1_ n2_ n3_ n4_ n5_ n6_; clear hb hbox hg; have hnb4 := NB292_293.out; have hnc4 := NB293_292.out; have hcz5_0 : w3.cell? ⟨gb292, 0, none⟩ = some (.int .i64 a0_0) := (blk_cell BK292.out 0).trans rfl; have hcz5_1 : w3.cell? ⟨gb292, 1, none⟩ = some (.int .i64 a0_1) := (blk_cell BK292.out 1).trans rfl; have hcz5_2 : w3.cell? ⟨gb292, 2, none⟩ = some (.int .i64 a0_2) := (blk_cell BK292.out 2).trans rfl; have hcz5_3 : w3.cell? ⟨gb292, 3, none⟩ = some (.int .i64 a0_3) := (blk_cell BK292.out 3).trans rfl; have hcz5_4 : w3.cell? ⟨gb292, 4, none⟩ = some (.int .i64 a0_4) := (blk_cell BK292.out 4).trans rfl; have hcz5_5 : w3.cell? ⟨gb292, 5, none⟩ = some (.int .i32 a0_5) := (blk_cell BK292.out 5).trans rfl; have hfz5_0 := blk_frozen BK292.out 0; have hfz5_1 := blk_frozen BK292.out 1; have hfz5_2 := blk_frozen BK292.out 2; have hfz5_3 := blk_frozen BK292.out 3; have hfz5_4 := blk_frozen BK292.out 4; have hfz5_5 := blk_frozen BK292.out 5; have hcz6_0 : w3.cell? ⟨gb293, 0, none⟩ = some (.int .i64 0) := (blk_cell BK293.out 0).trans rfl; have hcz6_1 : w3.cell? ⟨gb293, 1, none⟩ = some (.int .i64 0) := (blk_cell BK293.out 1).trans rfl; have hcz6_2 : w3.cell? ⟨gb293, 2, none⟩ = some (.int .i64 0) := (blk_cell BK293.out 2).trans rfl; have hcz6_3 : w3.cell? ⟨gb293, 3, none⟩ = some (.int .i64 0) := (blk_cell BK293.out 3).trans rfl; have hcz6_4 : w3.cell? ⟨gb293, 4, none⟩ = some (.int .i64 0) := (blk_cell BK293.out 4).trans rfl; have hcz6_5 : w3.cell? ⟨gb293, 5, none⟩ = some (.int .i32 0) := (blk_cell BK293.out 5).trans rfl; have hfz6_0 := blk_frozen BK293.out 0; have hfz6_1 := blk_frozen BK293.out 1; have hfz6_2 := blk_frozen BK293.out 2; have hfz6_3 := blk_frozen BK293.out 3; have hfz6_4 := blk_frozen BK293.out 4; have hfz6_5 := blk_frozen BK293.out 5))
 refine bodyPost_ret (results_cell_row rfl _ _ gb293 35 #[.int .i64 a0_0, .int .i64 a0_1, .int .i64 a0_2, .int .i64 a0_3, .int .i64 a0_4, .int .i32 0] (0, 0) _ rfl (by (with_reducible repeat (first | refine blk_drewN ?_ _ | refine blk_drew ?_ | refine blk_alloc ?_ _)); refine blk_put (cs := #[.int .i64 a0_0, .int .i64 a0_1, .int .i64 a0_2, .int .i64 a0_3, .int .i64 a0_4, .int .i32 0]) ?_ 5 _ rfl; (with_reducible repeat (first | refine blk_drewN ?_ _ | refine blk_drew ?_ | refine blk_alloc ?_ _)); refine blk_put (cs := #[.int .i64 a0_0, .int .i64 a0_1, .int .i64 a0_2, .int .i64 a0_3, .int .i64 0, .int .i32 0]) ?_ 4 _ rfl; (with_reducible repeat (first | refine blk_drewN ?_ _ | refine blk_drew ?_ | refine blk_alloc ?_ _)); refine blk_put (cs := #[.int .i64 a0_0, .int .i64 a0_1, .int .i64 a0_2, .int .i64 0, .int .i64 0, .int .i32 0]) ?_ 3 _ rfl; (with_reducible repeat (first | refine blk_drewN ?_ _ | refine blk_drew ?_ | refine blk_alloc ?_ _)); refine blk_put (cs := #[.int .i64 a0_0, .int .i64 a0_1, .int .i64 0, .int .i64 0, .int .i64 0, .int .i32 0]) ?_ 2 _ rfl; (with_reducible repeat (first | refine blk_drewN ?_ _ | refine blk_drew ?_ | refine blk_alloc ?_ _)); refine blk_put (cs := #[.int .i64 a0_0, .int .i64 0, .int .i64 0, .int .i64 0, .int .i64 0, .int .i32 0]) ?_ 1 _ rfl; (with_reducible repeat (first | refine blk_drewN ?_ _ | refine blk_drew ?_ | refine blk_alloc ?_ _)); refine blk_put (cs := #[.int .i64 0, .int .i64 0, .int .i64 0, .int .i64 0, .int .i64 0, .int .i32 0]) ?_ 0 _ rfl; (with_reducible repeat (first | refine blk_drewN ?_ _ | refine blk_drew ?_ | refine blk_alloc ?_ _)); refine blk_far ?_ NB293_292.out _; (with_reducible repeat (first | refine blk_drewN ?_ _ | refine blk_drew ?_ | refine blk_alloc ?_ _)); exact BK293.out) Tryz.underlying35 rfl (by kernel_rfl)) rfl ?_
 exact ⟨by first | rfl | (simp [errW_none, errW_some] <;> rfl) | (simp [*, errW_none, errW_some] <;> rfl), by repeat (first | (with_reducible first | exact HB.out | apply below_alloc | apply pw_below_drewN | apply below_drew1 | refine below_set ?_ GE292.out | refine below_set ?_ GE293.out) | exact HB.out)⟩
end Go.Proofs.YtjlpaagnajmogaaGreat.PWalk
end
section
namespace Go.Proofs.YtjlpaagnajmogaaGreat.PWalk
open Go.RowKit Go.Proofs.YtjlpaagnajmogaaGreatW.PrintWords Go.Proofs.YtjlpaagnajmogaaGreatW.PrintLast Go.Proofs.YtjlpaagnajmogaaGreatW.PrintMore
set_option linter.unusedVariables false
set_option linter.unusedSimpArgs false
open Go.Shelf
attribute [local go_sem] Oper.semAt_some
def idxD (p : Dot → Bool) (l : List Dot) : Int := match l.findIdx? p with | some i => (i : Int) | none => -1
theorem idxD_at {p : Dot → Bool} {l : List Dot} {k : Nat} {x : Dot} (hk : l[k]? = some x) (hx : p x = true) (hno : ∀ j y, j < k → l[j]? = some y → p y = false) : idxD p l = k := by
 unfold idxD
 rw [List.findIdx?_eq_some_iff_getElem.2 ⟨(List.getElem?_eq_some_iff.1 hk).1, by rw [(List.getElem?_eq_some_iff.1 hk).2]; exact hx, fun j hj => by rw [hno j _ hj (List.getElem?_eq_getElem _)]; simp⟩]
theorem idxD_none {p : Dot → Bool} {l : List Dot} (hno : ∀ j y, j < l.length → l[j]? = some y → p y = false) : idxD p l = -1 := by
 unfold idxD
 rw [List.findIdx?_eq_none_iff.2 fun x hx => by
  obtain ⟨j, hj⟩ := List.getElem?_of_mem hx
  exact hno j x (List.getElem?_eq_some_iff.1 hj).1 hj]
theorem noD_step {p : Dot → Bool} {l : List Dot} {k : Nat} {x : Dot} (hk : l[k]? = some x) (hx : p x = false) (hno : ∀ j y, j < k → l[j]? = some y → p y = false) : ∀ j y, j < k + 1 → l[j]? = some y → p y = false := by
 intro j y hj hy
 rcases Nat.lt_succ_iff_lt_or_eq.1 hj with h | h
 ·
  exact hno j y h hy
 ·
  subst h; rw [hk] at hy; cases hy; exact hx
set_option maxHeartbeats 400000 in
theorem IndexFuncDot.calls (p : Dot → Bool) (fn : Nat) (A0 : Option Addr) (c0 : Nat) (l0 : List Dot) (w : World) (hr0 : Kd.C k24 w A0 l0.length l0) (hc0 : l0.length ≤ c0)
  (hcall : ∀ args W, (callFunc fn args).run Tryz.prog W = .ok (.enter fn args) W)
  (hp : ∀ x W, Calls Tryz.prog fn #[vDot x] W fun e W' => e = .returned (.bool (p x)) ∧ Below W.heap.size W W') :
  Calls Tryz.prog 131 #[.slice A0 l0.length c0, .func (.func fn) #[] #[]] w fun e w' => e = .returned (.int .i64 (idxD p l0)) ∧ Below w.heap.size w w' := by
 have hm := Kd.C_max hr0
 have hu := Tryz.underlying24
 have HR := Aside0.mk hr0
 have HP := Aside0.mk hp
 have HC := Aside0.mk hc0
 clear hr0 hp hc0
 go_enter Tryz.func131, Tryz.ntmps131
 go_wp2
 go_loopw [5, 8] (fun _ i wr => ∃ k : Nat, k ≤ l0.length ∧ i = .int .i64 k ∧ Aside0 (∀ j y, j < k → l0[j]? = some y → p y = false) ∧ Aside0 (Below w.heap.size w wr)) (fun _ i _ => l0.length - (intOf i).toNat)
 case atStart => exact ⟨0, Nat.zero_le _, rfl, ⟨fun j y hj => absurd hj (Nat.not_lt_zero _)⟩, ⟨Below.refl _ _⟩⟩
 case round =>
  obtain ⟨k, hk, rfl, hno, hb⟩ := hrel
  by_cases hlt : k < l0.length
  ·
   obtain ⟨x, hx⟩ : ∃ x, Aside0 (l0[k]? = some x) := ⟨_, ⟨List.getElem?_eq_getElem hlt⟩⟩
   obtain ⟨ad, e, h0, h1⟩ := dot_at HR.out hb.out k x hx.out
   subst e
   cases hpx : p x with
   | true =>
    have HX := Aside0.mk hpx
    clear hpx
    go_wp2
    refine (HP.out x _).mono ?_
    rintro e W' ⟨rfl, hb2⟩
    rw [HX.out]
    go_wp2
    go_ret
    exact ⟨by rw [idxD_at hx.out HX.out hno.out]; rfl, below_then hb.out hb.out.size hb2⟩
   | false =>
    have HX := Aside0.mk hpx
    clear hpx
    go_wp2
    refine (HP.out x _).mono ?_
    rintro e W' ⟨rfl, hb2⟩
    rw [HX.out]
    go_wp2
    go_roundw
    case rel => exact ⟨k + 1, by omega, by go_num, ⟨noD_step hx.out HX.out hno.out⟩, ⟨below_then hb.out hb.out.size hb2⟩⟩
    case measure => simp [intOf]; omega
  ·
   go_wp2
   go_ret
   obtain rfl : k = l0.length := by omega
   exact ⟨by rw [idxD_none hno.out]; rfl, hb.out⟩
set_option maxHeartbeats 400000 in
theorem ContainsFuncDot.calls (p : Dot → Bool) (fn : Nat) (A0 : Option Addr) (c0 : Nat) (l0 : List Dot) (w : World) (hr0 : Kd.C k24 w A0 l0.length l0) (hc0 : l0.length ≤ c0)
  (hcall : ∀ args W, (callFunc fn args).run Tryz.prog W = .ok (.enter fn args) W)
  (hp : ∀ x W, Calls Tryz.prog fn #[vDot x] W fun e W' => e = .returned (.bool (p x)) ∧ Below W.heap.size W W') :
  Calls Tryz.prog 101 #[.slice A0 l0.length c0, .func (.func fn) #[] #[]] w fun e w' => e = .returned (.bool (l0.any p)) ∧ Below w.heap.size w w' := by
 have HI := Aside0.mk (IndexFuncDot.calls p fn A0 c0 l0 w hr0 hc0 hcall hp)
 clear hr0 hc0 hp hcall
 go_enter Tryz.func101, Tryz.ntmps101
 go_wp2_with fail
 refine HI.out.mono ?_
 rintro e W' ⟨rfl, hb⟩
 have hi : decide (idxD p l0 ≥ 0) = l0.any p := by
  unfold idxD
  cases h : l0.findIdx? p with
  | none => simp [List.findIdx?_eq_none_iff] at h; simp; exact h
  | some i => simp; exact ⟨_, List.getElem_mem (List.findIdx?_eq_some_iff_getElem.1 h).1, (List.findIdx?_eq_some_iff_getElem.1 h).2.1⟩
 have HI2 := Aside0.mk hi
 clear hi
 go_wp2
 go_ret
 exact ⟨by rw [← HI2.out]; rfl, hb⟩
theorem badDot_call (d : Dot) (W : World) : Calls Tryz.prog 102 #[vDot d] W fun e W' => e = .returned (.bool (!dotOk d)) ∧ Below W.heap.size W W' := by
 have HX := Aside0.mk (blk_new W (dotC d))
 have HB := Aside0.mk (Gr.alloc W (dotC d)).below
 go_enter Tryz.func102, Tryz.ntmps102
 go_wp2_with fail
 refine (dot_Valid.calls d.f0 d.f1 (dotOk d) _ (by rw [dotValid_is])).mono ?_
 rintro e V ⟨rfl, hb⟩
 have HB2 := Aside0.mk (below_more HB.out hb)
 clear hb
 go_wp2
 go_ret
 exact ⟨rfl, HB2.out⟩
def deadN (x : Node) : Node := ⟨x.f0, x.f1, x.f2, 0⟩
/-- The nodes with some dots were deleted, one after the other. -/
def killFrom (ks : List Dot) : List Node → List Dot → Option (List Node)
 | o, [] => some o
 | o, d :: ds => if hasK ks d = true then killFrom ks (o.modify (posK ks d) deadN) ds else none
def killOut : Option (List Node) → List Node × Int
 | some o => (o, 0)
 | none => ([], 9)
def store_Kill.f (l0 : List Node) (l1 : List Dot) : Option (List Node × Int) :=
 if l0.length ≤ 1000000 ∧ l1.length ≤ 1000000 then some (if storeOk l0 = true ∧ l1.all dotOk = true then killOut (killFrom (l0.map (·.f0)) l0 l1) else ([], 2)) else none
theorem modify_dots (o : List Node) (k : Nat) : (o.modify k deadN).map (·.f0) = o.map (·.f0) := by
 apply List.ext_getElem?
 intro i
 rw [List.getElem?_map, List.getElem?_map, List.getElem?_modify]
 split
 ·
  cases o[i]? <;> rfl
 ·
  cases o[i]? <;> rfl
theorem modify_set (o : List Node) (k : Nat) (x : Node) (h : o[k]? = some x) : o.set k (deadN x) = o.modify k deadN := by
 apply List.ext_getElem?
 intro i
 rw [List.getElem?_set, List.getElem?_modify]
 have hk := (List.getElem?_eq_some_iff.1 h).1
 by_cases e : k = i
 ·
  subst e
  simp [hk, (List.getElem?_eq_some_iff.1 h).2]
 ·
  simp [e]
set_option maxHeartbeats 1000000 in
set_option maxRecDepth 100000 in
theorem store_Kill.calls (A0 : Option Addr) (c0 : Nat) (ll : List Node) (A1 : Option Addr) (c1 : Nat) (ds : List Dot) (r1 : List Node) (r2 : Int) (w : World) (hr0 : Kd.C k35 w A0 ll.length ll) (hc0 : ll.length ≤ c0) (hr1 : Kd.C k24 w A1 ds.length ds) (hc1 : ds.length ≤ c1) (h : store_Kill.f ll ds = some (r1, r2)) :
  Calls Tryz.prog 58 #[.slice A0 ll.length c0, .slice A1 ds.length c1] w fun e w' => ∃ v0_ : Value, e = .returned (.tuple #[v0_, .int .i64 r2]) ∧ Kd.R k35 35 w' w.heap.size (fun _ => True) v0_ r1 ∧ Below w.heap.size w w' := by
 unfold store_Kill.f at h
 by_cases hl : ll.length ≤ 1000000 ∧ ds.length ≤ 1000000
 rotate_left
 ·
  rw [if_neg hl] at h; cases h
 rw [if_pos hl] at h
 have HH := Aside0.mk (Option.some.inj h)
 have HR := Aside0.mk hr0
 have HC := Aside0.mk hc0
 have HRD := Aside0.mk hr1
 have HL := Aside0.mk hl
 have hmd := Kd.C_max hr1
 obtain ⟨b, Hb⟩ : ∃ b, Aside0 (storeOk ll = b) := ⟨_, ⟨rfl⟩⟩
 obtain ⟨b2, Hb2⟩ : ∃ b, Aside0 (ds.all dotOk = b) := ⟨_, ⟨rfl⟩⟩
 have HVAL := Aside0.mk (store_Valid.calls A0 c0 ll b w HR.out HC.out (by unfold store_Valid.f; rw [if_pos HL.out.1, Hb.out]))
 have HCF : Aside0 (∀ W, Below w.heap.size w W → Calls Tryz.prog 101 #[.slice A1 ds.length c1, .func (.func 102) #[] #[]] W fun e W' => e = .returned (.bool (!b2)) ∧ Below W.heap.size W W') := ⟨fun W hb => by
  have := ContainsFuncDot.calls (fun d => !dotOk d) 102 A1 c1 ds W (Kd.C_below HRD.out hb) hc1 (enters_of Tryz.func102 (by kernel_rfl) rfl) badDot_call
  rwa [show (ds.any fun d => !dotOk d) = !b2 by rw [← Hb2.out, List.not_all_eq_any_not]] at this⟩
 rw [Hb.out, Hb2.out] at HH
 clear h hr0 hc0 hr1 hc1 hl
 go_enter Tryz.func58, Tryz.ntmps58
 go_wp2_with fail
 refine HVAL.out.mono ?_
 rintro e V1 ⟨rfl, hb⟩
 have HB := Aside0.mk hb
 clear hb HVAL
 cases b with
 | false =>
  obtain ⟨rfl, rfl⟩ : r1 = [] ∧ r2 = 2 := by
   have := HH.out
   rw [if_neg (by simp)] at this
   cases this
   exact ⟨rfl, rfl⟩
  go_wp2
  go_ret2
  exact ⟨_, rfl, Kd.R_nil _ _ _ _ _, HB.out⟩
 | true =>
  go_wp2_with fail
  refine (HCF.out V1 HB.out).mono ?_
  rintro e V2 ⟨rfl, hb⟩
  have HB := Aside0.mk (below_more HB.out hb)
  clear hb HCF
  cases b2 with
  | false =>
   obtain ⟨rfl, rfl⟩ : r1 = [] ∧ r2 = 2 := by
    have := HH.out
    rw [if_neg (by simp)] at this
    cases this
    exact ⟨rfl, rfl⟩
   go_wp2
   go_ret2
   exact ⟨_, rfl, Kd.R_nil _ _ _ _ _, HB.out⟩
  | true =>
   go_wp2_with fail
   refine (CloneNode.calls A0 c0 ll V2 (Kd.C_below HR.out HB.out) HL.out.1).mono ?_
   rintro e V3 ⟨v3, rfl, hR3, hb⟩
   have HB3 := Aside0.mk hb
   obtain ⟨A3, c3, rfl⟩ := RN.slice hR3
   obtain ⟨n, Hn⟩ : ∃ n, Aside0 (ll.length = n) := ⟨_, ⟨rfl⟩⟩
   rw [Hn.out] at hR3 ⊢
   have HR3 := Aside0.mk hR3
   have HK := Aside0.mk (show killFrom (ll.map (·.f0)) ll (ds.drop 0) = killFrom (ll.map (·.f0)) ll ds by rw [List.drop_zero])
   obtain ⟨kr, Hkr⟩ : ∃ kr, Aside0 (killFrom (ll.map (·.f0)) ll ds = kr) := ⟨_, ⟨rfl⟩⟩
   rw [Hkr.out] at HK HH
   have HHH := Aside0.mk (show killOut kr = (r1, r2) by have := HH.out; rw [if_pos (by simp)] at this; exact this)
   obtain ⟨ks, Hks⟩ : ∃ ks, Aside0 (ll.map (·.f0) = ks) := ⟨_, ⟨rfl⟩⟩
   rw [Hks.out] at HK
   have HKI : Aside0 (incB ks = true) := ⟨by have := Hb.out; unfold storeOk at this; rw [Bool.and_eq_true] at this; rw [← Hks.out]; exact this.2⟩
   clear hb hR3
   go_wp2
   go_loopw [22] (fun v22 wr => ∃ (j : Nat) (dk : List Node), v22 = .int .i64 j ∧ j ≤ ds.length ∧ Aside0 (killFrom ks dk (ds.drop j) = kr) ∧ Aside0 (dk.map (·.f0) = ks) ∧ Aside0 (Kd.R k35 35 wr V2.heap.size (fun _ => True) (.slice A3 n c3) dk) ∧ Aside0 (Below V2.heap.size V2 wr)) (fun v22 _ => ds.length - (intOf v22).toNat)
   case atStart => exact ⟨0, ll, rfl, Nat.zero_le _, HK, Hks, HR3, HB3⟩
   case round =>
    obtain ⟨j, dk, rfl, hj, HKF, HKS, HO, HW⟩ := hrel
    by_cases hlt : j < ds.length
    ·
     obtain ⟨d, hd⟩ : ∃ d, Aside0 (ds[j]? = some d) := ⟨_, ⟨List.getElem?_eq_getElem hlt⟩⟩
     obtain ⟨ad, e, h0, h1⟩ := dot_at HRD.out (below_more HB.out HW.out) j d hd.out
     have HDR := Aside0.mk (show ds.drop j = d :: ds.drop (j + 1) by rw [List.drop_eq_getElem_cons hlt, (List.getElem?_eq_some_iff.1 hd.out).2])
     subst e
     have hdl : dk.length = n := ((Kd.R_reads' HO.out).1).symm
     have HDL := Aside0.mk hdl
     have HN6 : Aside0 (n ≤ 1000000) := ⟨by rw [← Hn.out]; exact HL.out.1⟩
     have HX := Aside0.mk (blk_new wr (dotC d))
     clear hdl
     go_wp2_with fail
     refine (storefind_call dk A3 n c3 d _ ks HKS.out HKI.out HDL.out HN6.out (Kd.C_below (show Kd.C k35 wr A3 n dk by have := (Kd.R_reads' HO.out).2.2; rwa [HDL.out] at this) (below_alloc (Below.refl _ wr) (dotC d)))).mono ?_
     rintro e V ⟨rfl, hb⟩
     have HBV := Aside0.mk (below_more (below_alloc (Below.refl _ wr) (dotC d)) hb)
     clear hb h0 h1 HX
     obtain ⟨q, Hq⟩ : ∃ q, Aside0 (posK ks d = q) := ⟨_, ⟨rfl⟩⟩
     obtain ⟨b3, Hb3⟩ : ∃ b, Aside0 (hasK ks d = b) := ⟨_, ⟨rfl⟩⟩
     rw [Hq.out, Hb3.out]
     cases b3 with
     | false =>
      obtain ⟨rfl, rfl⟩ : r1 = [] ∧ r2 = 9 := by
       have h1 := HKF.out
       rw [HDR.out] at h1
       unfold killFrom at h1
       rw [if_neg (by rw [Hb3.out]; decide)] at h1
       have := HHH.out
       rw [← h1] at this
       cases this
       exact ⟨rfl, rfl⟩
      go_wp2
      go_ret2
      exact ⟨_, rfl, Kd.R_nil _ _ _ _ _, below_more HB.out (below_more HW.out HBV.out)⟩
     | true =>
      have hqn : q < n := by
       have := hasK_lt Hb3.out
       rw [Hq.out, ← HKS.out, List.length_map, HDL.out] at this
       exact this
      obtain ⟨x, hx⟩ : ∃ x, Aside0 (dk[q]? = some x) := ⟨_, ⟨List.getElem?_eq_getElem (by rw [HDL.out]; exact hqn)⟩⟩
      have HOV := Aside0.mk (own_more HO.out HBV.out)
      obtain ⟨g, rfl⟩ : ∃ g, A3 = some ⟨g, 0, none⟩ := by
       obtain ⟨g, cap, h1, _⟩ := Kd.R_form HO.out (by rw [HDL.out]; omega)
       cases h1
       exact ⟨g, rfl⟩
      obtain ⟨y0, y1, y2, y3, y4, y5⟩ := row_six HOV.out hx.out
      go_wp2_with fail
      refine (node_Kill.calls x.f0.f0 x.f0.f1 x.f1.f0 x.f1.f1 x.f2 x.f3 _ _ _ _ _ _ V rfl).mono ?_
      rintro e V2' ⟨rfl, hb⟩
      have HBV2 := Aside0.mk (below_more HBV.out hb)
      have HOW := Aside0.mk (own_more HOV.out hb)
      clear hb y0 y1 y2 y3 y4 y5
      go_wp2_with (refine wpList_putNode rfl (.tmp 41) (.tmp 40) rfl rfl (deadN x) HOW.out hqn rfl rfl ?_; intro V4 hR4 hg4)
      have HB4 := Aside0.mk (grown_on hg4 (below_more HW.out HBV2.out) (fun k e => by cases e; exact R_base HO.out _ rfl))
      go_roundw
      case rel => exact ⟨j + 1, dk.set q (deadN x), by go_num, by omega, ⟨by rw [modify_set _ _ _ hx.out, ← Hq.out]; have h1 := HKF.out; rw [HDR.out] at h1; unfold killFrom at h1; rw [if_pos Hb3.out] at h1; exact h1⟩, ⟨by rw [modify_set _ _ _ hx.out, modify_dots]; exact HKS.out⟩, ⟨hR4⟩, HB4⟩
      case measure => simp [intOf]; omega
    ·
     obtain rfl : j = ds.length := by omega
     obtain ⟨rfl, rfl⟩ : r1 = dk ∧ r2 = 0 := by
      have h1 := HKF.out
      rw [List.drop_of_length_le (Nat.le_refl _)] at h1
      unfold killFrom at h1
      have := HHH.out
      rw [← h1] at this
      cases this
      exact ⟨rfl, rfl⟩
     have HO2 := Aside0.mk (Kd.R_lower HO.out HB.out.size)
     go_wp2
     go_ret2
     exact ⟨_, rfl, HO2.out, below_more HB.out HW.out⟩
end Go.Proofs.YtjlpaagnajmogaaGreat.PWalk
end
section
namespace Go.Proofs.YtjlpaagnajmogaaGreat.PWalk
open Go.RowKit Go.Proofs.YtjlpaagnajmogaaGreatW.PrintWords Go.Proofs.YtjlpaagnajmogaaGreatW.PrintLast Go.Proofs.YtjlpaagnajmogaaGreatW.PrintMore
set_option linter.unusedVariables false
set_option linter.unusedSimpArgs false
open Go.Shelf
attribute [local go_sem] Oper.semAt_some
/-- What keeps a node's dot, parent and time. -/
def Keeps (g : Node → Node) : Prop := ∀ x, (g x).f0 = x.f0 ∧ (g x).f1 = x.f1 ∧ (g x).f2 = x.f2
theorem keeps_lt {g : Node → Node} (h : Keeps g) (a b : Node) : nodeLt (g a) (g b) = nodeLt a b := by
 unfold nodeLt
 rw [(h a).1, (h a).2.2, (h b).1, (h b).2.2]
theorem insB_map {g : Node → Node} (h : Keeps g) (x : Node) : ∀ o, insB (g x) (o.map g) = (insB x o).map g
 | [] => rfl
 | y :: r => by
  rw [List.map_cons]
  unfold insB
  rw [keeps_lt h]
  split
  ·
   rw [insB_map h x r]; rfl
  ·
   rfl
theorem foldB_map {g : Node → Node} (h : Keeps g) : ∀ (f o : List Node), (f.map g).foldl (fun o x => insB x o) (o.map g) = (f.foldl (fun o x => insB x o) o).map g
 | [], o => rfl
 | x :: f, o => by
  rw [List.map_cons, List.foldl_cons, List.foldl_cons, insB_map h, foldB_map h f]
theorem kids_map {g : Node → Node} (h : Keeps g) (l : List Node) (d : Dot) : kids (l.map g) d = (kids l d).map g := by
 unfold kids
 rw [List.filter_map, show ((fun x : Node => decide (x.f1 = d)) ∘ g) = fun x => decide (x.f1 = d) from funext fun x => by show decide ((g x).f1 = d) = _; rw [(h x).2.1]]
 exact foldB_map h _ []
theorem belowN_map {g : Node → Node} (h : Keeps g) (l : List Node) : ∀ (n dep : Nat) (d : Dot), belowN (l.map g) n dep d = (belowN l n dep d).map fun p => (p.1, g p.2)
 | 0, _, _ => rfl
 | n + 1, dep, d => by
  unfold belowN
  rw [kids_map h, List.flatMap_map, List.map_flatMap]
  refine flatMap_same fun x _ => ?_
  rw [(h x).1, belowN_map h l n]
  rfl
theorem ord_map {g : Node → Node} (h : Keeps g) (l : List Node) : nds (ordOf (l.map g)) = (nds (ordOf l)).map g := by
 unfold ordOf belowOf nds
 rw [belowN_map h, List.length_map, List.map_map, List.map_map]
 rfl
def killD (d : Dot) (x : Node) : Node := if x.f0 = d then deadN x else x
theorem killD_keeps (d : Dot) : Keeps (killD d) := fun x => by
 unfold killD
 split
 ·
  exact ⟨rfl, rfl, rfl⟩
 ·
  exact ⟨rfl, rfl, rfl⟩
theorem killD_ok {d : Dot} {x : Node} (h : nodeOk x = true) : nodeOk (killD d x) = true := by
 unfold killD
 split
 ·
  unfold nodeOk at h ⊢
  have := of_decide_eq_true h
  exact decide_eq_true ⟨this.1, this.2.1, this.2.2.1, this.2.2.2.1, this.2.2.2.2.1, .inl rfl⟩
 ·
  exact h
theorem kill_store {l : List Node} (hs : storeOk l = true) (d : Dot) : storeOk (l.map (killD d)) = true := by
 unfold storeOk at hs ⊢
 rw [Bool.and_eq_true, List.all_eq_true] at hs ⊢
 refine ⟨fun x hx => ?_, ?_⟩
 ·
  rw [List.mem_map] at hx
  obtain ⟨y, hy, rfl⟩ := hx
  exact killD_ok (hs.1 y hy)
 ·
  rw [List.map_map, show ((fun x : Node => x.f0) ∘ killD d) = fun x => x.f0 from funext fun x => (killD_keeps d x).1]
  exact hs.2
theorem modify_kill {l : List Node} (hs : Store l) {k : Nat} {x : Node} (hk : l[k]? = some x) : l.modify k deadN = l.map (killD x.f0) := by
 apply List.ext_getElem?
 intro i
 rw [List.getElem?_modify, List.getElem?_map]
 by_cases e : k = i
 ·
  subst e
  rw [hk]
  show some (if k = k then deadN x else x) = some (killD x.f0 x)
  unfold killD
  simp
 ·
  cases hi : l[i]? with
  | none => rfl
  | some y =>
   show some (if k = i then deadN y else y) = some (killD x.f0 y)
   rw [if_neg e]
   unfold killD
   rw [if_neg fun h => e (inc_unique hs.inc hk hi h.symm)]
theorem kill_is {l : List Node} (hl : l.length ≤ 1000000) (hs : storeOk l = true) {x : Node} (hx : x ∈ l) : store_Kill.f l [x.f0] = some (l.map (killD x.f0), 0) := by
 obtain ⟨k, hk⟩ := List.getElem?_of_mem hx
 have hok : dotOk x.f0 = true := by
  unfold storeOk at hs
  rw [Bool.and_eq_true, List.all_eq_true] at hs
  have := hs.1 x hx
  unfold nodeOk at this
  exact (of_decide_eq_true this).1
 obtain ⟨h1, h2⟩ := find_in hs hk
 unfold store_Kill.f
 rw [if_pos ⟨hl, by simp⟩, if_pos ⟨hs, by simp [hok]⟩]
 unfold killFrom
 rw [if_pos h2, h1]
 unfold killFrom
 rw [modify_kill (store_of hs) hk]
 rfl
theorem ord_dots {l : List Node} (hs : storeOk l = true) {x y : Node} (hx : x ∈ nds (ordOf l)) (hy : y ∈ nds (ordOf l)) (e : x.f0 = y.f0) : x = y := by
 have hst := store_of hs
 unfold nds at hx hy
 rw [List.mem_map] at hx hy
 obtain ⟨p, hp, rfl⟩ := hx
 obtain ⟨q, hq, rfl⟩ := hy
 exact inc_eq hst.inc (ord_mem hst hp) (ord_mem hst hq) e
/-- The order around a visible node. -/
theorem order_at {l : List Node} (hs : storeOk l = true) {i : Nat} {x : Node} (hi : (visOf l)[i]? = some x) :
  ∃ L1 L2, nds (ordOf l) = L1 ++ x :: L2 ∧ visOf l = aliveOf L1 ++ x :: aliveOf L2 ∧ (aliveOf L1).length = i ∧ (∀ y ∈ L1, y.f0 ≠ x.f0) ∧ (∀ y ∈ L2, y.f0 ≠ x.f0) ∧ ¬ x.f3 = 0 := by
 have hm := List.mem_of_getElem? hi
 have hx0 := (mem_vis hs hm).2
 have hxo : x ∈ nds (ordOf l) := by
  unfold visOf aliveOf at hm
  exact (List.mem_filter.1 hm).1
 obtain ⟨L1, L2, hL⟩ := List.append_of_mem hxo
 have hnd : (nds (ordOf l)).Nodup := ord_nodup (store_of hs)
 have hv : visOf l = aliveOf L1 ++ x :: aliveOf L2 := by
  unfold visOf aliveOf
  rw [hL, List.filter_append, List.filter_cons, if_pos (by simp [hx0])]
 have hvn : (visOf l).Nodup := hnd.filter _
 rw [hL] at hnd
 rw [List.nodup_append] at hnd
 have hne1 : ∀ y ∈ L1, y.f0 ≠ x.f0 := fun y hy e => by
  have := ord_dots hs (by rw [hL]; exact List.mem_append_left _ hy) hxo e
  subst this
  exact hnd.2.2 y hy y (List.mem_cons_self ..) rfl
 have hne2 : ∀ y ∈ L2, y.f0 ≠ x.f0 := fun y hy e => by
  have := ord_dots hs (by rw [hL]; exact List.mem_append_right _ (List.mem_cons_of_mem _ hy)) hxo e
  subst this
  exact (List.nodup_cons.1 hnd.2.1).1 hy
 refine ⟨L1, L2, hL, hv, ?_, hne1, hne2, hx0⟩
 have h2 : (visOf l)[(aliveOf L1).length]? = some x := by rw [hv]; simp
 have hlt := (List.getElem?_eq_some_iff.1 h2).1
 exact (List.getElem?_inj hlt hvn).1 (by rw [h2, hi])
theorem killD_away {d : Dot} : ∀ {L : List Node}, (∀ y ∈ L, y.f0 ≠ d) → L.map (killD d) = L
 | [], _ => rfl
 | y :: L, h => by
  rw [List.map_cons, killD_away (fun z hz => h z (List.mem_cons_of_mem _ hz))]
  unfold killD
  rw [if_neg (h y (List.mem_cons_self ..))]
/-- What the killing does to the order and to the visible nodes. -/
theorem killed_at {l : List Node} (hs : storeOk l = true) {i : Nat} {x : Node} (hi : (visOf l)[i]? = some x) :
  ∃ L1 L2, nds (ordOf (l.map (killD x.f0))) = L1 ++ deadN x :: L2 ∧ visOf (l.map (killD x.f0)) = aliveOf L1 ++ aliveOf L2 ∧ visOf l = aliveOf L1 ++ x :: aliveOf L2 ∧ (aliveOf L1).length = i ∧ (∀ y ∈ L1, y.f0 ≠ x.f0) ∧ (∀ y ∈ L2, y.f0 ≠ x.f0) := by
 obtain ⟨L1, L2, hL, hv, hl, h1, h2, hx0⟩ := order_at hs hi
 have ho : nds (ordOf (l.map (killD x.f0))) = L1 ++ deadN x :: L2 := by
  rw [ord_map (killD_keeps _), hL, List.map_append, List.map_cons, killD_away h1, killD_away h2]
  unfold killD
  rw [if_pos rfl]
 refine ⟨L1, L2, ho, ?_, hv, hl, h1, h2⟩
 unfold visOf
 rw [ho]
 unfold aliveOf
 rw [List.filter_append, List.filter_cons, if_neg (by simp [deadN])]
theorem dies_runes {l : List Node} (hs : storeOk l = true) {i : Nat} {x : Node} (hi : (visOf l)[i]? = some x) : runesOf (l.map (killD x.f0)) = (runesOf l).take i ++ (runesOf l).drop (i + 1) := by
 obtain ⟨L1, L2, _, hv2, hv, hl, _⟩ := killed_at hs hi
 unfold runesOf
 rw [hv2, hv, ← List.map_take, ← List.map_drop, ← List.map_append]
 congr 1
 rw [List.take_left' hl, show aliveOf L1 ++ x :: aliveOf L2 = (aliveOf L1 ++ [x]) ++ aliveOf L2 by simp, List.drop_left' (by simp [hl])]
theorem dies_of {l : List Node} (hs : storeOk l = true) {i : Nat} {x : Node} (hi : (visOf l)[i]? = some x) : idxFrom (dotIs x.f0) (visOf (l.map (killD x.f0))) < 0 := by
 obtain ⟨L1, L2, _, hv2, _, _, h1, h2⟩ := killed_at hs hi
 rw [idxFrom_none (p := dotIs x.f0)]
 ·
  decide
 ·
  intro j y _ hy
  have hm := List.mem_of_getElem? hy
  rw [hv2, List.mem_append] at hm
  have hne : y.f0 ≠ x.f0 := by
   rcases hm with hm | hm
   ·
    exact h1 y (List.mem_filter.1 hm).1
   ·
    exact h2 y (List.mem_filter.1 hm).1
  unfold dotIs
  rw [dot_beq]
  exact decide_eq_false hne
theorem dies_before {l : List Node} (hs : storeOk l = true) {i : Nat} {x : Node} (hi : (visOf l)[i]? = some x) :
  ¬ idxFrom (dotIs x.f0) (nds (ordOf (l.map (killD x.f0)))) < 0 ∧ (aliveOf ((nds (ordOf (l.map (killD x.f0)))).take (idxFrom (dotIs x.f0) (nds (ordOf (l.map (killD x.f0))))).toNat)).length = i := by
 obtain ⟨L1, L2, ho, _, _, hl, h1, h2⟩ := killed_at hs hi
 have he : idxFrom (dotIs x.f0) (nds (ordOf (l.map (killD x.f0)))) = (L1.length : Int) := by
  rw [ho]
  refine idxFrom_at (x := deadN x) (by simp) (by unfold dotIs; simp [deadN]) ?_
  intro j y hj hy
  rw [List.getElem?_append_left hj] at hy
  unfold dotIs
  rw [dot_beq]
  exact decide_eq_false (h1 y (List.mem_of_getElem? hy))
 rw [he]
 refine ⟨by omega, ?_⟩
 rw [ho, Int.toNat_natCast, List.take_left' rfl, hl]
end Go.Proofs.YtjlpaagnajmogaaGreat.PWalk
end
section
namespace Go.Proofs.YtjlpaagnajmogaaGreat.PWalk
end Go.Proofs.YtjlpaagnajmogaaGreat.PWalk
end
section
namespace Go.Proofs.YtjlpaagnajmogaaGreat.PWalk
open Go.RowKit Go.Proofs.YtjlpaagnajmogaaGreatW.PrintWords Go.Proofs.YtjlpaagnajmogaaGreatW.PrintLast Go.Proofs.YtjlpaagnajmogaaGreatW.PrintMore
set_option linter.unusedVariables false
set_option linter.unusedSimpArgs false
open Go.Shelf
attribute [local go_sem] Oper.semAt_some
abbrev RI (W : World) (base : Nat) (u : Value) (xs : List Int) : Prop := Kd.R (Kd.int .i32) 21 W base (fun _ => True) u xs
theorem op_append_int {o : Oper} {a : Act} {K : Act → World → Prop} {Q : Exit → Act → World → Prop} {W : World} (base : Nat) (hgd : o.guard = none) (s x : Operand)
  (ho : o.op = .call { callee := .builtin .append, args := #[s, x], argTypes := #[57, 57] }) (v : Value) (xs ys : List Int) (A : Option Addr) (m c : Nat) (hs : a.eval s = v) (hx : a.eval x = .slice A m c)
  (hr : RI W base v xs) (hc : Kd.C (Kd.int .i32) W A m ys) (hb : base ≤ W.heap.size) (hl : xs.length + m ≤ 1000000)
  (h : ∀ v1 w1, RI w1 base v1 (xs ++ ys) → W.grownBy w1 v.ownBlock → (v1.ownBlock = v.ownBlock ∨ ∃ b, v1.ownBlock = some b ∧ W.heap.size ≤ b) → K (a.put o.dst v1) w1) : o.wp Tryz.prog a W K Q := by
 have hw : Region.wanted o (yielded #[] a.tmps) = true := by simp [Region.wanted, hgd]
 have := Kd.R_append_rows_step (P := Tryz.prog) (ops := #[]) (Q := Q) (Kc := K) (Kd.int .i32) (w0 := W) base hw s x 57 21 (.int .i32 0) 4 ho Tryz.underlying57 info21 rfl (by decide) (by decide) v xs ys A m c (fun _ => True) (fun _ => False) hs hx hr hc (fun _ _ h => h) (fun _ hk => hk.elim) (fun _ _ => trivial) (Below.refl _ _) hb (by omega)
  (fun v1 w1 h1 _ h3 h4 => h v1 w1 h1 h3 h4)
 rwa [if_pos hw] at this
theorem grown_belowI {W0 V V' : World} {v : Value} {xs : List Int} (hb : Below W0.heap.size W0 V) (hr : RI V W0.heap.size v xs) (hg : V.grownBy V' v.ownBlock) : Below W0.heap.size W0 V' :=
 hb.grown hg hb.size (fun k e => by obtain ⟨_, inner, hown, _⟩ := hr; exact (hown.lt k e).1)
theorem cut_toI {A : Option Addr} {n c k : Nat} (hm : k ≤ n) (hc : n ≤ c) (W : World) : (Instr.sliceAt 57 (.slice A n c) none (some (.int .i64 (k : Int))) none).run Tryz.prog W = .ok (.slice A k c) W := by
 obtain ⟨i, hi, _⟩ := info_get info21
 exact run_sliced Tryz.underlying57 (cut_to _ _ .i64 Tryz.underlying57 hi A n c (k : Int) (by omega) (by omega) hc W)
theorem cut_fromI {A : Option Addr} {n c k : Nat} (hm : k ≤ n) (W : World) : (Instr.sliceAt 57 (.slice A n c) (some (.int .i64 (k : Int))) none none).run Tryz.prog W = .ok (.slice (if c = k then A else A.map (·.add (k * 1))) (n - k) (c - k)) W := by
 obtain ⟨i, hi, _, hs, _⟩ := info_get info21
 exact run_sliced Tryz.underlying57 (cut_from _ _ .i64 Tryz.underlying57 hi 1 hs A n c (k : Int) (by omega) (by omega) W)
/-- What has come up in the double append. -/
structure DiF (W0 : World) (rs : List Int) (i : Nat) (l3 l8 l9 : Bool) (v1 v3 : Value) (V : World) : Prop where
 ord8 : l8 = true → l3 = true
 ord9 : l9 = true → l8 = true
 below : Below W0.heap.size W0 V
 r1 : l3 = true → l8 = false → RI V W0.heap.size v1 (rs.take i)
 r3 : l8 = true → RI V W0.heap.size v3 (rs.take i ++ rs.drop (i + 1))
theorem DiF.no {W0 : World} {rs : List Int} {i : Nat} {l3 l8 l9 : Bool} {v1 v3 : Value} {V : World} (h : DiF W0 rs i l3 l8 l9 v1 v3 V) (hl : l3 = false) : l8 = false ∧ l9 = false := by
 have h8 : l8 = false := by
  cases l8 with
  | false => rfl
  | true => have := h.ord8 rfl; rw [hl] at this; cases this
 refine ⟨h8, ?_⟩
 cases l9 with
 | false => rfl
 | true => have := h.ord9 rfl; rw [h8] at this; cases this
def diesInv (W0 : World) (Ar Ac : Option Addr) (m cr i m3 q3 : Nat) (rs : List Int) (z0 z1 z2 z3 z4 z7 z8 z9 z10 z11 z12 z13 z14 z15 z16 z17 z18 z19 z20 z21 z22 z23 z24 z25 z26 z27 z28 z29 z30 z31 z32 z33 z34 z35 z36 z37 z38 z39 z40 z41 z42 z43 z44 z45 z46 z47 z48 z49 z50 z51 z52 z53 z54 z55 z56 z57 z58 z59 z60 z61 z62 z63 z64 z65 z66 z67 z68 z69 z70 z71 z72 z73 z74 z75 z76 z77 z78 z79 z80 z81 z82 : Value) (L : Array Bool) (ac : Act) (V : World) : Prop := ∃ (l0 l1 l2 l3 l4 l5 l6 l7 l8 l9 : Bool) (v1 : Value) (v3 : Value), L = #[l0, l1, l2, l3, l4, l5, l6, l7, l8, l9] ∧ ac = { tmps := #[z0, z1, z2, z3, z4, .slice Ar m cr, .int .i64 (i : Int), z7, z8, z9, selv l9 (v3) (z10), z11, z12, z13, z14, z15, z16, z17, z18, z19, z20, z21, z22, z23, z24, z25, z26, z27, z28, z29, z30, z31, z32, z33, z34, z35, z36, z37, z38, z39, z40, z41, z42, z43, z44, z45, z46, z47, z48, z49, z50, selv l0 (.slice Ar m cr) (z51), selv l1 (.int .i64 (i : Int)) (z52), selv l2 (.slice Ar i cr) (z53), selv l3 (v1) (z54), selv l4 (.slice Ar m cr) (z55), selv l5 (.int .i64 (i : Int)) (z56), selv l6 (.int .i64 ((i : Int) + 1)) (z57), selv l7 (.slice Ac m3 q3) (z58), selv l8 (v3) (z59), z60, z61, z62, z63, z64, z65, z66, z67, z68, z69, z70, z71, z72, z73, z74, z75, z76, z77, z78, z79, z80, z81, z82], defers := [] } ∧ Aside0 (DiF W0 rs i l3 l8 l9 v1 v3 V)
theorem at_is {ll : List Node} (hl : ll.length ≤ 40) (hs : storeOk ll = true) {i : Nat} {x : Node} (hx : (visOf ll)[i]? = some x) {k : Nat} (hk : 3 ≤ k) : index_At.f k ll (i : Int) = some (x.f0.f0, x.f0.f1, x.f1.f0, x.f1.f1, x.f2, x.f3, 0) := by
 have hlt := (List.getElem?_eq_some_iff.1 hx).1
 have hxe := (List.getElem?_eq_some_iff.1 hx).2
 unfold index_At.f
 rw [vis_is (by omega), if_pos hs]
 simp only [Option.bind_some, when_is, first2_k hk]
 rw [if_neg (by omega), show decide ((i : Int) ≥ ((visOf ll).length : Int)) = false from decide_eq_false (by omega)]
 simp only [Bool.false_eq_true, if_false, if_true, Option.bind_some]
 rw [if_pos (by omega), if_pos (by omega), rdN hlt, hxe]
/-- What lies ready behind the store that was changed. -/
structure DiB (w : World) (gB : Nat) (x : Node) (Ar : Option Addr) (m cr : Nat) (rs : List Int) (V : World) : Prop where
 below : Below w.heap.size w V
 box : V.heap[gB]? = some (.cells #[.int .i64 x.f0.f0, .int .i64 x.f0.f1, .int .i64 x.f1.f0, .int .i64 x.f1.f1, .int .i64 x.f2, .int .i32 x.f3] 35 (0, 0))
 runes : Kd.C (Kd.int .i32) V Ar m rs
theorem DiB.more {w : World} {gB : Nat} {x : Node} {Ar : Option Addr} {m cr : Nat} {rs : List Int} {V V' : World} (h : DiB w gB x Ar m cr rs V) (hb : Below V.heap.size V V') : DiB w gB x Ar m cr rs V' := ⟨below_more h.below hb, blk_keep h.box hb, Kd.C_below h.runes hb⟩
set_option maxHeartbeats 4000000 in
set_option maxRecDepth 100000 in
theorem IndexDies.walk (A0 : Option Addr) (c0 : Nat) (ll : List Node) (w : World) (hr0 : Kd.C k35 w A0 ll.length ll) (hc0 : ll.length ≤ c0) (hi : ∀ x ∈ ll, runeIn x.f3) (a1 : Int) (w1 : (Lit.int .u8 a1).wf = true) :
  Calls Tryz.prog 11 #[.slice A0 ll.length c0, .int .u8 a1] w fun e w' => e = .returned (.bool true) ∧ Below w.heap.size w w' := by
 have ha : 0 ≤ a1 ∧ a1 ≤ 255 := by simpa [Lit.wf, IntKind.min, IntKind.max, IntKind.signed, IntKind.bits] using w1
 have HR := Aside0.mk hr0
 have HC := Aside0.mk hc0
 obtain ⟨n, Hn⟩ : ∃ n, Aside0 (ll.length = n) := ⟨_, ⟨rfl⟩⟩
 by_cases h40 : ll.length > 40
 ·
  have hb2 : decide ((40 : Int) < (n : Int)) = true := decide_eq_true (by have := Hn.out; omega)
  have hb3 : decide ((n : Int) > 40) = true := decide_eq_true (by have := Hn.out; omega)
  rw [Hn.out]
  clear hr0 hc0 hi h40 w1 ha
  go_enter Tryz.func11, Tryz.ntmps11
  go_wp2_with fail
  refine (redpencillaw12_known.calls true _ rfl).mono ?_
  rintro e W3 ⟨rfl, hd⟩
  go_wp2
  go_ret
  exact ⟨rfl, hd⟩
 have HL : Aside0 (ll.length ≤ 40) := ⟨by omega⟩
 have hb2 : decide ((40 : Int) < (n : Int)) = false := decide_eq_false (by have := Hn.out; omega)
 have hb3 : decide ((n : Int) > 40) = false := decide_eq_false (by have := Hn.out; omega)
 obtain ⟨b, Hb⟩ : ∃ b, Aside0 (storeOk ll = b) := ⟨_, ⟨rfl⟩⟩
 have hval := redpencilref10_Valid.calls 1000 A0 c0 ll b w hr0 hc0 (by rw [refValid_is ll (by omega) hi 1000 (by omega), Hb.out])
 have hLn : ll.length = n := Hn.out
 rw [hLn] at hval ⊢
 have HVAL := Aside0.mk hval
 have HA := Aside0.mk ha
 clear hr0 hc0 hi h40 hval hLn w1 ha
 go_enter Tryz.func11, Tryz.ntmps11
 go_wp2_with fail
 refine HVAL.out.mono ?_
 rintro e V1 ⟨rfl, hb⟩
 have HB := Aside0.mk hb
 clear hb HVAL
 cases b with
 | false =>
  go_wp2_with fail
  refine (redpencillaw12_known.calls true _ rfl).mono ?_
  rintro e W3 ⟨rfl, hd⟩
  go_wp2
  go_ret
  exact ⟨rfl, below_more HB.out hd⟩
 | true =>
  go_wp2_with fail
  have hcall := redpencilref12_Runes.calls 1000 A0 c0 ll (runesOf ll) V1 (Kd.C_below HR.out HB.out) HC.out (refRunes_is HL.out Hb.out (by omega))
  rw [Hn.out] at hcall
  refine hcall.mono ?_
  clear hcall
  rintro e V2 ⟨v8, rfl, hr8, hb⟩
  have HB := Aside0.mk (below_more HB.out hb)
  obtain ⟨Ar, cr, rfl⟩ := Kd.R_slice hr8
  have H8 := Aside0.mk (Kd.R_reads' hr8).2
  clear hb hr8
  obtain ⟨rs, Hrs⟩ : ∃ rs, Aside0 (runesOf ll = rs) := ⟨_, ⟨rfl⟩⟩
  rw [Hrs.out] at H8 ⊢
  obtain ⟨m, Hm⟩ : ∃ m, Aside0 (rs.length = m) := ⟨_, ⟨rfl⟩⟩
  rw [Hm.out] at H8 ⊢
  have HM : Aside0 (m ≤ 40 ∧ m = (visOf ll).length) := ⟨by
   have h1 := runesOf_len Hb.out
   have h2 := HL.out
   rw [← Hm.out, ← Hrs.out]
   refine ⟨by omega, ?_⟩
   unfold runesOf
   rw [List.length_map]⟩
  by_cases hm0 : m = 0
  ·
   subst hm0
   go_wp2_with fail
   have hcall := redpencillaw12_has.calls A0 c0 ll 0 0 true V2 (Kd.C_below HR.out HB.out) HC.out (by have := has_ok HL.out Hb.out; rw [Hrs.out, Hm.out] at this; exact this)
   rw [Hn.out] at hcall
   refine hcall.mono ?_
   clear hcall
   rintro e V3 ⟨rfl, hb⟩
   have HB := Aside0.mk (below_more HB.out hb)
   clear hb
   go_wp2_with fail
   refine (redpencillaw12_known.calls true _ rfl).mono ?_
   rintro e W3 ⟨rfl, hd⟩
   go_wp2
   go_ret
   exact ⟨rfl, below_more HB.out hd⟩
  ·
   have hne : ((m : Int) == 0) = false := beq_eq_false_iff_ne.2 (by omega)
   obtain ⟨i, Hi⟩ : ∃ i : Nat, Aside0 (Int.tmod a1 (m : Int) = (i : Int) ∧ i < m) := ⟨(Int.tmod a1 (m : Int)).toNat, ⟨by
    have h1 := HA.out
    have h2 := Int.tmod_eq_emod_of_nonneg (a := a1) (b := (m : Int)) (by omega)
    have h3 := Int.emod_nonneg a1 (show (m : Int) ≠ 0 by omega)
    have h4 := Int.emod_lt_of_pos a1 (show (0 : Int) < (m : Int) by omega)
    rw [h2]
    omega⟩⟩
   have hti := Hi.out.1
   have hwa : IntKind.i64.wrap a1 = a1 := wrap_small a1 (by have := HA.out; omega) (by have := HA.out; omega)
   have hmne : ¬ (m : Int) = 0 := by omega
   obtain ⟨x, Hx⟩ : ∃ x, Aside0 ((visOf ll)[i]? = some x) := ⟨_, ⟨List.getElem?_eq_getElem (by have h1 := Hi.out.2; have h2 := HM.out.2; omega)⟩⟩
   go_wp2_with fail
   have hcall := index_At.calls 1000 A0 c0 ll (i : Int) x.f0.f0 x.f0.f1 x.f1.f0 x.f1.f1 x.f2 x.f3 0 V2 (Kd.C_below HR.out HB.out) HC.out (at_is HL.out Hb.out Hx.out (by omega))
   rw [Hn.out] at hcall
   refine hcall.mono ?_
   clear hcall
   rintro e V3 ⟨rfl, hb⟩
   have HB3 := Aside0.mk (below_more HB.out hb)
   have H83 := Aside0.mk (Kd.C_below H8.out.2 hb)
   have HRC := Aside0.mk H8.out.1
   clear hb hti hwa hmne hne H8
   have HXM := Aside0.mk (mem_vis Hb.out (List.mem_of_getElem? Hx.out)).1
   go_wp2_with fail
   have hcall := store_Kill.calls A0 c0 ll (some ⟨V3.heap.size + 1, 0, none⟩) 1 [x.f0] (ll.map (killD x.f0)) 0 _ (Kd.C_below HR.out (below_alloc (below_alloc HB3.out (.cells #[.int .i64 x.f0.f0, .int .i64 x.f0.f1, .int .i64 x.f1.f0, .int .i64 x.f1.f1, .int .i64 x.f2, .int .i32 x.f3] 35 (0, 0))) (.cells #[.int .i64 x.f0.f0, .int .i64 x.f0.f1] 24 (0, 0)))) HC.out (lit_dotsC _ _ (by simp) [x.f0] #[.int .i64 x.f0.f0, .int .i64 x.f0.f1] rfl (Nat.le_of_ble_eq_true rfl)) (Nat.le_refl 1) (kill_is (by have := HL.out; omega) Hb.out HXM.out)
   rw [Hn.out] at hcall
   refine hcall.mono ?_
   clear hcall
   rintro e V9 ⟨vk, rfl, hrk, hb⟩
   obtain ⟨ll2, Hll2⟩ : ∃ l, Aside0 (ll.map (killD x.f0) = l) := ⟨_, ⟨rfl⟩⟩
   rw [Hll2.out] at hrk
   have Hn2 : Aside0 (ll2.length = n) := ⟨by rw [← Hll2.out, List.length_map, Hn.out]⟩
   obtain ⟨Ak, ck, rfl⟩ := RN.slice hrk
   have HK := Aside0.mk (Kd.R_reads' hrk).2
   rw [Hn2.out] at HK ⊢
   have HD9 := Aside0.mk (show DiB w V3.heap.size x Ar m cr rs V9 from ⟨below_more (below_alloc (below_alloc HB3.out _) _) hb, blk_keep (blk_keep (blk_new V3 _) (below_alloc (Below.refl _ _) _)) hb, Kd.C_below (Kd.C_below H83.out (below_alloc (below_alloc (Below.refl _ V3) _) _)) hb⟩)
   clear hb hrk HB3 H83
   have HC9 := Aside0.mk (Kd.C_below HD9.out.runes (below_drew1 (Below.refl _ V9)))
   have HRL : Aside0 (rs.length = m) := Hm
   have HIB : Aside0 (i < m ∧ i ≤ m ∧ m ≤ cr ∧ i < 40 ∧ m ≤ 40) := ⟨by have h1 := Hi.out.2; have h2 := HRC.out; have h3 := HM.out.1; omega⟩
   obtain ⟨m3, Hm3⟩ : ∃ m3, Aside0 (m - (i + 1) = m3) := ⟨_, ⟨rfl⟩⟩
   obtain ⟨q3, Hq3⟩ : ∃ q3, Aside0 (cr - (i + 1) = q3) := ⟨_, ⟨rfl⟩⟩
   obtain ⟨Ac, HAc⟩ : ∃ Ac, Aside0 ((if cr = i + 1 then Ar else Option.map (·.add ((i + 1) * 1)) Ar) = Ac) := ⟨_, ⟨rfl⟩⟩
   have HCD : Aside0 (Kd.C (Kd.int .i32) V9.drew Ac m3 (rs.drop (i + 1))) := ⟨by rw [← HAc.out, ← Hm3.out]; exact C_from HC9.out HRL.out (by have := HIB.out; omega) HIB.out.2.2.1⟩
   have HCF : Aside0 (∀ W, (Instr.sliceAt 57 (.slice Ar m cr) (some (.int .i64 ((i : Int) + 1))) none none).run Tryz.prog W = .ok (.slice Ac m3 q3) W) := ⟨fun W => by rw [← HAc.out, ← Hm3.out, ← Hq3.out]; exact cut_fromI (k := i + 1) (by have := HIB.out; omega) W⟩
   go_wp2_with fail
   refine AnyOrder.wp_region (by kernel_rfl) (diesInv V9.drew Ar Ac m cr i m3 q3 rs _ _ _ _ _ _ _ _ _ _ _ _ _ _ _ _ _ _ _ _ _ _ _ _ _ _ _ _ _ _ _ _ _ _ _ _ _ _ _ _ _ _ _ _ _ _ _ _ _ _ _ _ _ _ _ _ _ _ _ _ _ _ _ _ _ _ _ _ _ _ _ _ _ _ _ _ _ _ _ _ _) ⟨false, false, false, false, false, false, false, false, false, false, undef, undef, rfl, rfl, ⟨⟨fun h => (by cases h), fun h => (by cases h), Below.refl _ _, fun h _ => (by cases h), fun h => (by cases h)⟩⟩⟩ ?step ?last
   case step =>
    rintro L ac V i ⟨l0, l1, l2, l3, l4, l5, l6, l7, l8, l9, v1, v3, rfl, rfl, HF⟩ hi K hK
    have h1 : i = 0 ∨ i = 1 ∨ i = 2 ∨ i = 3 ∨ i = 4 ∨ i = 5 ∨ i = 6 ∨ i = 7 ∨ i = 8 ∨ i = 9 := by
     have h1 := (AnyOrder.mem_ready hi).1
     clear hi hK
     change i < 10 at h1
     omega
    rcases h1 with rfl | rfl | rfl | rfl | rfl | rfl | rfl | rfl | rfl | rfl
    ·
     obtain rfl : l0 = false := (AnyOrder.mem_ready hi).2.1
     clear hi
     refine AnyOrder.wpOp_go rfl (by rfl) ?_
     go_wp2_with fail
     exact ⟨true, l1, l2, l3, l4, l5, l6, l7, l8, l9, v1, v3, rfl, rfl, HF⟩
    ·
     obtain rfl : l1 = false := (AnyOrder.mem_ready hi).2.1
     clear hi
     refine AnyOrder.wpOp_go rfl (by rfl) ?_
     go_wp2_with fail
     exact ⟨l0, true, l2, l3, l4, l5, l6, l7, l8, l9, v1, v3, rfl, rfl, HF⟩
    ·
     obtain rfl : l2 = false := (AnyOrder.mem_ready hi).2.1
     obtain rfl : l0 = true := AnyOrder.dep (q := 0) hi rfl rfl rfl
     obtain rfl : l1 = true := AnyOrder.dep (q := 1) hi rfl rfl rfl
     clear hi
     simp only [sel_true, selv_true] at hK ⊢
     refine AnyOrder.wpOp_go rfl (by rfl) ?_
     refine op_slice 57 (.tmp 51) none (some (.tmp 52)) rfl rfl rfl rfl (cut_toI HIB.out.2.1 HIB.out.2.2.1 V) ?_
     exact hK _ _ ⟨true, true, true, l3, l4, l5, l6, l7, l8, l9, v1, v3, rfl, rfl, HF⟩
    ·
     obtain rfl : l3 = false := (AnyOrder.mem_ready hi).2.1
     obtain rfl : l2 = true := AnyOrder.dep (q := 0) hi rfl rfl rfl
     clear hi
     simp only [sel_true, selv_true] at hK ⊢
     obtain ⟨rfl, rfl⟩ := HF.out.no rfl
     (try simp only [sel_false, selv_false] at hK ⊢)
     refine AnyOrder.wpOp_go rfl (by rfl) ?_
     refine op_append_int V9.drew.heap.size rfl (.const (.slice none 0 0)) (.tmp 53) rfl (.slice none 0 0) [] (rs.take i) Ar i cr rfl rfl (Kd.R_nil _ _ _ _ _) (C_to (Kd.C_below HC9.out HF.out.below) HRL.out HIB.out.2.1) HF.out.below.size (by have h1 := HIB.out; simp; omega) ?_
     intro u1 V1' hr1 hg1 _
     have hb1 := grown_nil hg1
     exact hK _ _ ⟨l0, l1, true, true, l4, l5, l6, l7, false, false, u1, v3, rfl, rfl, ⟨⟨fun h => (by cases h), fun h => (by cases h), below_more HF.out.below hb1, fun _ _ => hr1, fun h => (by cases h)⟩⟩⟩
    ·
     obtain rfl : l4 = false := (AnyOrder.mem_ready hi).2.1
     clear hi
     refine AnyOrder.wpOp_go rfl (by rfl) ?_
     go_wp2_with fail
     exact ⟨l0, l1, l2, l3, true, l5, l6, l7, l8, l9, v1, v3, rfl, rfl, HF⟩
    ·
     obtain rfl : l5 = false := (AnyOrder.mem_ready hi).2.1
     clear hi
     refine AnyOrder.wpOp_go rfl (by rfl) ?_
     go_wp2_with fail
     exact ⟨l0, l1, l2, l3, l4, true, l6, l7, l8, l9, v1, v3, rfl, rfl, HF⟩
    ·
     obtain rfl : l6 = false := (AnyOrder.mem_ready hi).2.1
     obtain rfl : l5 = true := AnyOrder.dep (q := 0) hi rfl rfl rfl
     clear hi
     simp only [sel_true, selv_true] at hK ⊢
     have hib := HIB.out.2.2.2
     refine AnyOrder.wpOp_go rfl (by rfl) ?_
     go_wp2_with fail
     exact ⟨l0, l1, l2, l3, l4, true, true, l7, l8, l9, v1, v3, rfl, rfl, HF⟩
    ·
     obtain rfl : l7 = false := (AnyOrder.mem_ready hi).2.1
     obtain rfl : l4 = true := AnyOrder.dep (q := 0) hi rfl rfl rfl
     obtain rfl : l6 = true := AnyOrder.dep (q := 1) hi rfl rfl rfl
     clear hi
     simp only [sel_true, selv_true] at hK ⊢
     refine AnyOrder.wpOp_go rfl (by rfl) ?_
     refine op_slice 57 (.tmp 55) (some (.tmp 57)) none rfl rfl rfl rfl (HCF.out V) ?_
     exact hK _ _ ⟨l0, l1, l2, l3, true, l5, true, true, l8, l9, v1, v3, rfl, rfl, HF⟩
    ·
     obtain rfl : l8 = false := (AnyOrder.mem_ready hi).2.1
     obtain rfl : l3 = true := AnyOrder.dep (q := 0) hi rfl rfl rfl
     obtain rfl : l7 = true := AnyOrder.dep (q := 1) hi rfl rfl rfl
     clear hi
     simp only [sel_true, selv_true] at hK ⊢
     obtain rfl : l9 = false := by cases l9 with | false => rfl | true => cases HF.out.ord9 rfl
     (try simp only [sel_false, selv_false] at hK ⊢)
     have hr1 := HF.out.r1 rfl rfl
     refine AnyOrder.wpOp_go rfl (by rfl) ?_
     refine op_append_int V9.drew.heap.size rfl (.tmp 54) (.tmp 58) rfl v1 (rs.take i) (rs.drop (i + 1)) Ac m3 q3 rfl rfl hr1 (Kd.C_below HCD.out HF.out.below) HF.out.below.size (by have h1 := HIB.out; have h3 := Hm3.out; rw [List.length_take]; omega) ?_
     intro u3 V3' hr3 hg3 _
     exact hK _ _ ⟨l0, l1, l2, true, l4, l5, l6, true, true, false, v1, u3, rfl, rfl, ⟨⟨fun _ => rfl, fun h => (by cases h), grown_belowI HF.out.below hr1 hg3, fun _ h => (by cases h), fun _ => hr3⟩⟩⟩
    ·
     obtain rfl : l9 = false := (AnyOrder.mem_ready hi).2.1
     obtain rfl : l8 = true := AnyOrder.dep (q := 0) hi rfl rfl rfl
     obtain rfl : l0 = true := AnyOrder.dep (q := 2) hi rfl rfl rfl
     obtain rfl : l1 = true := AnyOrder.dep (q := 3) hi rfl rfl rfl
     obtain rfl : l2 = true := AnyOrder.dep (q := 4) hi rfl rfl rfl
     obtain rfl : l3 = true := AnyOrder.dep (q := 5) hi rfl rfl rfl
     obtain rfl : l4 = true := AnyOrder.dep (q := 6) hi rfl rfl rfl
     obtain rfl : l5 = true := AnyOrder.dep (q := 7) hi rfl rfl rfl
     obtain rfl : l6 = true := AnyOrder.dep (q := 8) hi rfl rfl rfl
     obtain rfl : l7 = true := AnyOrder.dep (q := 9) hi rfl rfl rfl
     clear hi
     simp only [sel_true, selv_true] at hK ⊢
     refine AnyOrder.wpOp_go rfl (by rfl) ?_
     go_wp2_with fail
     exact ⟨true, true, true, true, true, true, true, true, true, true, v1, v3, rfl, rfl, ⟨⟨HF.out.ord8, fun _ => rfl, HF.out.below, HF.out.r1, HF.out.r3⟩⟩⟩
   case last =>
    rintro L ac V ⟨l0, l1, l2, l3, l4, l5, l6, l7, l8, l9, v1, v3, rfl, rfl, HF⟩ hr
    have hall := AnyOrder.all_listed rfl (by kernel_rfl) hr
    clear hr
    obtain rfl : l0 = true := hall 0 (by decide)
    obtain rfl : l1 = true := hall 1 (by decide)
    obtain rfl : l2 = true := hall 2 (by decide)
    obtain rfl : l3 = true := hall 3 (by decide)
    obtain rfl : l4 = true := hall 4 (by decide)
    obtain rfl : l5 = true := hall 5 (by decide)
    obtain rfl : l6 = true := hall 6 (by decide)
    obtain rfl : l7 = true := hall 7 (by decide)
    obtain rfl : l8 = true := hall 8 (by decide)
    obtain rfl : l9 = true := hall 9 (by decide)
    clear hall
    simp only [sel_true, selv_true]
    have HD := Aside0.mk (HD9.out.more (below_more (below_drew1 (Below.refl _ V9)) HF.out.below))
    have HK2 := Aside0.mk (Kd.C_below HK.out.2 (below_more (below_drew1 (Below.refl _ V9)) HF.out.below))
    have HKC := Aside0.mk HK.out.1
    obtain ⟨A3, c3, e3⟩ := Kd.R_slice (HF.out.r3 rfl)
    have H3 := HF.out.r3 rfl
    subst e3
    have H3 := Aside0.mk (Kd.R_reads' H3).2
    obtain ⟨want, Hw⟩ : ∃ want, Aside0 (rs.take i ++ rs.drop (i + 1) = want) := ⟨_, ⟨rfl⟩⟩
    rw [Hw.out] at H3 ⊢
    obtain ⟨mw, Hmw⟩ : ∃ mw, Aside0 (want.length = mw) := ⟨_, ⟨rfl⟩⟩
    rw [Hmw.out] at H3 ⊢
    have HL2 : Aside0 (ll2.length ≤ 40) := ⟨by have h1 := Hn2.out; have h2 := Hn.out; have h3 := HL.out; omega⟩
    have HS2 : Aside0 (storeOk ll2 = true) := ⟨by rw [← Hll2.out]; exact kill_store Hb.out _⟩
    have HRW : Aside0 (runesOf ll2 = want) := ⟨by rw [← Hll2.out, dies_runes Hb.out Hx.out, Hrs.out]; exact Hw.out⟩
    have HOK : Aside0 (dotOk x.f0 = true) := ⟨by
     have := Hb.out
     unfold storeOk at this
     rw [Bool.and_eq_true, List.all_eq_true] at this
     have := this.1 x HXM.out
     unfold nodeOk at this
     exact (of_decide_eq_true this).1⟩
    clear HF HC9 HCD HCF HK HD9
    go_wp2_with fail
    have hcall := redpencillaw12_chars.calls 1000 Ak ck ll2 A3 c3 want 0 true V (by rw [Hn2.out]; exact HK2.out) (by rw [Hn2.out]; exact HKC.out) (by rw [Hmw.out]; exact H3.out.2) (by rw [Hmw.out]; exact H3.out.1) (by have := chars_ok HL2.out HS2.out (k := 1000) (by omega); rw [HRW.out] at this; exact this)
    rw [Hn2.out, Hmw.out] at hcall
    refine hcall.mono ?_
    clear hcall
    rintro e V4 ⟨rfl, hb⟩
    have HD := Aside0.mk (HD.out.more hb)
    have HK2 := Aside0.mk (Kd.C_below HK2.out hb)
    clear hb H3
    obtain ⟨y0, y1, y2, y3, y4, y5⟩ := box_cells HD.out.box
    go_wp2_with fail
    have hcall := redpencillaw12_of.calls Ak ck ll2 x.f0.f0 x.f0.f1 0 9 true V4 (by rw [Hn2.out]; exact HK2.out) (by rw [Hn2.out]; exact HKC.out) (of_none HL2.out HS2.out HOK.out (by rw [← Hll2.out]; exact dies_of Hb.out Hx.out))
    rw [Hn2.out] at hcall
    refine hcall.mono ?_
    clear hcall
    rintro e V5 ⟨rfl, hb⟩
    have HD := Aside0.mk (HD.out.more hb)
    have HK2 := Aside0.mk (Kd.C_below HK2.out hb)
    clear hb y0 y1 y2 y3 y4 y5
    obtain ⟨y0, y1, y2, y3, y4, y5⟩ := box_cells HD.out.box
    go_wp2_with fail
    have hcall := redpencillaw12_before.calls Ak ck ll2 x.f0.f0 x.f0.f1 (i : Int) 0 true V5 (by rw [Hn2.out]; exact HK2.out) (by rw [Hn2.out]; exact HKC.out) (by
     obtain ⟨q1, q2⟩ := dies_before Hb.out Hx.out
     rw [Hll2.out] at q1 q2
     have := before_at HL2.out HS2.out HOK.out q1
     rw [q2] at this
     exact this)
    rw [Hn2.out] at hcall
    refine hcall.mono ?_
    clear hcall
    rintro e V6 ⟨rfl, hb⟩
    have HD := Aside0.mk (HD.out.more hb)
    clear hb y0 y1 y2 y3 y4 y5
    go_wp2_with fail
    refine (redpencillaw12_known.calls true _ rfl).mono ?_
    rintro e W3 ⟨rfl, hd⟩
    go_wp2
    go_ret
    exact ⟨rfl, below_more HD.out.below hd⟩
end Go.Proofs.YtjlpaagnajmogaaGreat.PWalk
end
section
namespace Go.Proofs.YtjlpaagnajmogaaGreat.indexDies
open Go.ChangeShapes Go.WideShapes Go.ChangeAt Go.RowKit
open Go.ChangeMaps (open_string shut_string)
open Go.Proofs.YtjlpaagnajmogaaGreatW.PrintWords
set_option linter.unusedVariables false
theorem six_of {α : Type} {cs : List α} (h : cs.length = 6) : ∃ c0 c1 c2 c3 c4 c5, cs = [c0, c1, c2, c3, c4, c5] := by
 match cs, h with
 | [a, b, c, d, e, f], _ => exact ⟨a, b, c, d, e, f, rfl⟩
theorem open_node {H : Type} {enc : TypeId × Value → H} {W : World} {base : Nat} {sp : Nat → Bool} {held : Bool} {fuel : Nat} {cs : List Value} {x : DataW H × List MemPlace} (h : DataW.trod enc Tryz.prog W base sp held fuel 35 cs = some x) :
  ∃ n : PWalk.Node, cs = PWalk.nodeCells n ∧ PWalk.runeIn n.f3 := by
 have e37 : Tryz.prog.cellsOf 35 = 6 := by kernel_rfl
 have e35 : Tryz.prog.cellsOf 24 = 2 := by kernel_rfl
 have e3 : Tryz.prog.cellsOf 3 = 1 := by kernel_rfl
 have e21 : Tryz.prog.cellsOf 21 = 1 := by kernel_rfl
 obtain ⟨y0, y1, y2, y3, n, rfl, hl, h0, h1, h2, h3⟩ := Go.Joins.trod_struct4 Tryz.underlying35 h
 rw [e37] at hl
 obtain ⟨c0, c1, c2, c3, c4, c5, rfl⟩ := six_of hl
 simp only [e35, e3, e21, List.drop_zero, List.drop_succ_cons, List.take_succ_cons, List.take_zero] at h0 h1 h2 h3
 obtain ⟨_, _, _, _, _, g0, g1⟩ := trod_struct2 Tryz.underlying24 h0
 obtain ⟨_, _, _, _, _, g2, g3⟩ := trod_struct2 Tryz.underlying24 h1
 simp only [e3, List.drop_zero, List.drop_succ_cons, List.take_succ_cons, List.take_zero] at g0 g1 g2 g3
 obtain ⟨k0, i0, _, _⟩ := DataW.trod_int Tryz.underlying3 g0
 obtain ⟨k1, i1, _, _⟩ := DataW.trod_int Tryz.underlying3 g1
 obtain ⟨k2, i2, _, _⟩ := DataW.trod_int Tryz.underlying3 g2
 obtain ⟨k3, i3, _, _⟩ := DataW.trod_int Tryz.underlying3 g3
 obtain ⟨k4, i4, _, _⟩ := DataW.trod_int Tryz.underlying3 h2
 obtain ⟨k5, i5, _, hw⟩ := DataW.trod_int Tryz.underlying21 h3
 simp only [List.cons.injEq, and_true] at i0 i1 i2 i3 i4 i5
 subst i0 i1 i2 i3 i4 i5
 refine ⟨⟨⟨k0, k1⟩, ⟨k2, k3⟩, k4, k5⟩, rfl, ?_⟩
 have hw2 : -2147483648 ≤ k5 ∧ k5 ≤ 2147483647 := by simpa [Lit.wf, IntKind.min, IntKind.max, IntKind.signed, IntKind.bits] using hw
 exact ⟨by show _ ≤ k5; omega, by show k5 ≤ _; omega⟩
/-- A []api.Node that came in, nil or not. -/
theorem open_nodes {H : Type} {enc : TypeId × Value → H} {W : World} {A : Option Addr} {len cap : Nat} {x : DataW H × List MemPlace} {fuel : Nat} (h : DataW.trod enc Tryz.prog W 0 (fun _ => true) true fuel 22 [.slice A len cap] = some x) :
  ∃ xs : List PWalk.Node, xs.length = len ∧ Kd.C PWalk.k35 W A len xs ∧ len ≤ cap ∧ ∀ n ∈ xs, PWalk.runeIn n.f3 := by
 have e37 : Tryz.prog.cellsOf 35 = 6 := by kernel_rfl
 rcases Go.Deep.open_slice Tryz.underlying22 h with ⟨hcs, _⟩ | ⟨a, len', cap', m, n, D, Pl, hcs, _, hl, hm, hmm, _, hx⟩
 ·
  simp at hcs
  obtain ⟨rfl, rfl, rfl⟩ := hcs
  exact ⟨[], rfl, ⟨rfl, by omega, fun hp => absurd hp (by omega)⟩, Nat.le_refl _, fun n hn => by cases hn⟩
 ·
  simp at hcs
  obtain ⟨rfl, rfl, rfl⟩ := hcs
  simp only [if_true] at hmm
  subst hmm
  rw [e37] at hx
  haveI : Inhabited PWalk.Node := ⟨⟨⟨0, 0⟩, ⟨0, 0⟩, 0, 0⟩⟩
  obtain ⟨N, hN⟩ := Go.Deep.choose_lt (α := PWalk.Node) (n := len) (p := fun i nd => PWalk.runeIn nd.f3 ∧ ∀ j u, (PWalk.nodeCells nd)[j]? = some u → W.cell? (a.add (i * 6 + j)) = some u) (fun i hi => by
   obtain ⟨cs', h1, h2⟩ := hx i (by omega)
   obtain ⟨nd, rfl, hr⟩ := open_node h2
   refine ⟨nd, hr, fun j u hu => ?_⟩
   obtain ⟨_, hlen, hc⟩ := World.cells?_some h1
   have hj : j < 6 := (List.getElem?_eq_some_iff.1 hu).1
   rw [← Addr.add_add a (i * 6) j]
   rw [← hu]
   exact hc j (by simpa using hj))
  refine ⟨(List.range len).map N, by simp, ⟨by simp, Nat.le_trans hl hm, fun hp => ⟨a, rfl, fun i nd hi => ?_⟩⟩, hl, fun nd hnd => ?_⟩
  ·
   have hil : i < len := by simpa using (List.getElem?_eq_some_iff.1 hi).1
   have hnd : nd = N i := by simpa [hil] using hi.symm
   subst hnd
   refine ⟨PWalk.nodeCells (N i), rfl, PWalk.k35.K_of_M (PWalk.k35_mkM W 0 (fun _ => True) (N i)), fun j u hu => (hN i hil).2 j u hu⟩
  ·
   obtain ⟨i, hi, rfl⟩ := List.mem_map.1 hnd
   exact (hN i (by simpa using hi)).1
theorem own : ownKnob Tryz.prog.godebug = none := by kernel_rfl
theorem laidOut : laidOutB Tryz.prog = true := by kernel_rfl
set_option maxRecDepth 100000 in
set_option maxHeartbeats 2000000 in
theorem lifted (os : Os) (started : os.Started) (H : Type) (enc : TypeId × Value → H) :
  ReturnsInHanded {} Tryz.checked os 11 .any (Rows.indexDiesSpec.pre6 enc Tryz.prog Tryz.f11 Rows.indexDiesRow.domain false) (Rows.indexDiesSpec.post enc Tryz.prog Tryz.f11 false true false false) := by
 refine returnsInHanded_of_change_sized (C := Tryz.checked) own started (by kernel_rfl) Tryz.func11
  (ChangeSpec.witness6 (enc := enc) (C := Tryz.checked) false ⟨#[], #[.slice none 0 0, .int .u8 0], []⟩ 8 (by kernel_rfl) (by kernel_rfl) (by kernel_rfl) (by kernel_rfl)) ?_
 intro W base args ds gs before hval0 hW hcnd hsz0 _
 have hval : ∀ (j : Nat) t v, Tryz.f11.params[j]? = some t → args[j]? = some v → Value.okWide Tryz.prog W .any base t v := hval0
 have hW' := hW
 obtain ⟨p, q, hA0, hV, rfl, hfz, hnd⟩ := hW
 have hA : DataW.TrodAll enc Tryz.prog W 0 (fun _ => true) true Tryz.f11.params.toList args.toList ds p := hA0
 rw [Tryz.params11] at hA hval
 obtain ⟨v0, vs0, d0, ds0, p0, q0, hargs, rfl, rfl, h0, r0⟩ := trodAll_cons hA
 obtain ⟨v1, vs1, d1, ds1, p1, q1, rfl, rfl, rfl, h1, r1⟩ := trodAll_cons r0
 obtain ⟨rfl, rfl, rfl⟩ := trodAll_nil r1
 obtain rfl : args = #[v0, v1] := by cases args; simp_all
 obtain ⟨rfl, rfl⟩ := trodVars_none hV
 obtain ⟨A0, len0, cap0, rfl⟩ := okWide_slice Tryz.underlying22 (hval 0 22 v0 rfl rfl)
 have k0 := h0
 have lt0 : ∀ x ∈ p0, x.block < W.heap.size := by obtain ⟨m, hm⟩ := k0; exact DataW.trod_lt m _ _ _ hm
 obtain ⟨f0, hf0⟩ := h0
 obtain ⟨xs0, rfl, hr0, hc0, hi0⟩ := open_nodes hf0
 obtain ⟨a1, rfl, rfl, rfl, w1⟩ := open_int Tryz.underlying5 (hval 1 5 v1 rfl rfl) h1
 clear hA0 hval0 hsz0
 refine (PWalk.IndexDies.walk A0 cap0 xs0 W hr0 hc0 hi0 a1 w1).mono fun e W' ⟨he, bel⟩ => ?_
 subst he
 exact ⟨_, rfl, _, _, _, [], _, [], hW', trodAll_mk1 (shut_bool Tryz.underlying4 _), (trodAll_cons_mk (Below.trod laidOut (by kernel_rfl) (of_decide_eq_true (by kernel_rfl)) k0 bel lt0) (trodAll_cons_mk (shut_int Tryz.underlying5 w1) trodAll_mk0)), rfl, bel.frame _, fun h => by cases h⟩
theorem over : Rows.indexDiesRow.holds Tryz.pinned (OpenSpec.ofChange Rows.indexDiesSpec) :=
 OpenClaim.holds_of_wide 11 Tryz.f11 rfl rfl rfl rfl rfl rfl rfl ⟨rfl, rfl, rfl, rfl, rfl⟩ rfl rfl rfl rfl rfl (by kernel_rfl) Tryz.func11 (by kernel_rfl)
  (of_decide_eq_true (by kernel_rfl)) (by unfold Func.isWrapper; first | (rw [if_pos (by decide +kernel)]; kernel_rfl) | (rw [if_neg (by decide +kernel)]; exact ⟨rfl, rfl⟩))
  (fun os started H enc _ => lifted os started H enc)
theorem proved : Rows.IndexDiesSaid := over
#print axioms proved
end Go.Proofs.YtjlpaagnajmogaaGreat.indexDies
end
