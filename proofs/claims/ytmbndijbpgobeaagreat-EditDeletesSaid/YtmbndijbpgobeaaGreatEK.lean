/-
  The law EditDeletes of layer 15 holds for all states, indices and numbers. Part 11 of 12.
-/
import Derived.Test.YtmbndijbpgobeaaGreatEJ
section
namespace Go.Proofs.YtmbndijbpgobeaaGreat.PWalk
open Go.RowKit Go.Proofs.YtmbndijbpgobeaaGreatW.PrintWords Go.Proofs.YtmbndijbpgobeaaGreatW.PrintLast Go.Proofs.YtmbndijbpgobeaaGreatW.PrintMore
set_option linter.unusedVariables false
set_option linter.unusedSimpArgs false
open Go.Shelf
attribute [local go_sem] Oper.semAt_some
def cutN (x : Node) : List Node → Nat
 | [] => 0
 | y :: r => if nodeLt y x then cutN x r + 1 else 0
theorem insB_cut (x : Node) : ∀ l, insB x l = l.take (cutN x l) ++ x :: l.drop (cutN x l)
 | [] => rfl
 | y :: r => by
  rw [insB, cutN]
  split
  ·
   rw [List.take_succ_cons, List.drop_succ_cons, List.cons_append, ← insB_cut x r]
  ·
   rfl
theorem cutN_is {x : Node} : ∀ {l : List Node} {k : Nat}, k ≤ l.length → (∀ j y, j < k → l[j]? = some y → nodeLt y x = true) → (∀ y, l[k]? = some y → nodeLt y x = false) → cutN x l = k
 | [], k, hk, _, _ => by simp at hk; subst hk; rfl
 | y :: r, 0, _, _, h => by rw [cutN, if_neg (by rw [h y rfl]; simp)]
 | y :: r, k + 1, hk, h1, h2 => by
  rw [cutN, if_pos (h1 0 y (by omega) rfl), cutN_is (k := k) (by simpa using hk) (fun j z hj hz => h1 (j + 1) z (by omega) (by simpa using hz)) (fun z hz => h2 z (by simpa using hz))]
theorem kids_take_succ {l : List Node} {d : Dot} {i : Nat} {x : Node} (h : l[i]? = some x) : kids (l.take (i + 1)) d = if x.f1 = d then insB x (kids (l.take i) d) else kids (l.take i) d := by
 unfold kids
 rw [List.take_succ_eq_append_getElem (List.getElem?_eq_some_iff.1 h).1, (List.getElem?_eq_some_iff.1 h).2, List.filter_append, List.foldl_append]
 by_cases e : x.f1 = d <;> simp [e]
theorem kids_le (l : List Node) (d : Dot) : (kids l d).length ≤ l.length := by
 rw [(kids_perm l d).length_eq]; exact List.length_filter_le _ _
theorem jfirst_is (a b : Node) : redpencilref14_first.f a.f0.f0 a.f0.f1 a.f1.f0 a.f1.f1 a.f2 a.f3 b.f0.f0 b.f0.f1 b.f1.f0 b.f1.f1 b.f2 b.f3 = some (nodeLt a b) := by
 unfold redpencilref14_first.f nodeLt
 by_cases h : a.f2 = b.f2
 ·
  rw [if_neg (by omega), if_pos h, if_pos h, jbefore_is]
  rfl
 ·
  by_cases h2 : a.f2 > b.f2
  ·
   simp [h, h2]
  ·
   simp [h, h2]
def redpencilref14_Children.f (l0 : List Node) (a1_0 a1_1 : Int) : Option (List Node) := if l0.length ≤ 400000 then some (kids l0 ⟨a1_0, a1_1⟩) else none
attribute [local go_sem high] eqA25
def ch14aInv (W0 : World) (ad : Addr) (Ao : Option Addr) (n c0 no co i' k : Nat) (x y : Node) (lt b : Bool) (z1 z2 z3 z4 z8 z9 z10 z11 z12 z13 z14 z15 z16 z17 z18 z19 z20 z21 z22 z23 z24 z25 z26 z27 z28 z29 z30 z31 z32 z33 z34 z35 z36 z37 z38 z39 z40 z41 z42 z43 z44 z45 z46 z47 z48 z49 z50 z51 z52 z53 z54 : Value) (L : Array Bool) (ac : Act) (V : World) : Prop := ∃ (l0 l1 l2 l3 l4 l5 l6 l7 l8 l9 l10 l11 l12 l13 l14 : Bool), L = #[l0, l1, l2, l3, l4, l5, l6, l7, l8, l9, l10, l11, l12, l13, l14] ∧ ac = { tmps := #[.slice (some ad) n c0, z1, z2, z3, z4, .slice Ao no co, .int .i64 (i' : Int), .int .i64 (k : Int), z8, z9, z10, z11, z12, z13, z14, z15, z16, z17, z18, z19, z20, z21, selv l0 (.int .i64 (k : Int)) (z22), selv l1 (.slice Ao no co) (z23), selv l2 (.int .i64 (no : Int)) (z24), selv l3 (.bool lt) (z25), selv l4 (.bool lt) (z26), selv l5 (selv lt (.slice Ao no co) undef) (z27), selv l6 (selv lt (.int .i64 (k : Int)) undef) (z28), selv l7 (selv lt (.pointer (Ao.map fun a => a.add (k * 6))) undef) (z29), selv l8 (selv lt (vNode y) undef) (z30), selv l9 (selv lt (.slice (some ad) n c0) undef) (z31), selv l10 (selv lt (.int .i64 (i' : Int)) undef) (z32), selv l11 (selv lt (.pointer (some (ad.add (i' * 6)))) undef) (z33), selv l12 (selv lt (vNode x) undef) (z34), selv l13 (selv lt (.bool b) undef) (z35), selv l14 (.bool (lt && b)) (z36), z37, z38, z39, z40, z41, z42, z43, z44, z45, z46, z47, z48, z49, z50, z51, z52, z53, z54], defers := [] } ∧ Aside0 (Below W0.heap.size W0 V)
def ch14bInv (W0 : World) (ad : Addr) (Ao Ac : Option Addr) (n c0 no co i' k m3 q3 : Nat) (x : Node) (rest : List Node) (z1 z2 z3 z4 z8 z9 z10 z11 z12 z13 z14 z15 z16 z17 z18 z19 z20 z21 z22 z23 z24 z25 z26 z27 z28 z29 z30 z31 z32 z33 z34 z35 z36 z37 z38 z39 z40 z41 z42 z43 z44 z45 z46 z47 z48 z49 z50 z51 z52 z53 z54 : Value) (L : Array Bool) (ac : Act) (V : World) : Prop := ∃ (l0 l1 l2 l3 l4 l5 l6 l7 l8 l9 : Bool) (g : Nat) (v2 : Value), L = #[l0, l1, l2, l3, l4, l5, l6, l7, l8, l9] ∧ ac = { tmps := #[.slice (some ad) n c0, z1, z2, z3, z4, .slice Ao no co, .int .i64 (i' : Int), .int .i64 (k : Int), selv l9 (v2) (z8), z9, z10, z11, z12, z13, z14, z15, z16, z17, z18, z19, z20, z21, z22, z23, z24, z25, z26, z27, z28, z29, z30, z31, z32, z33, z34, z35, z36, z37, z38, selv l0 (.slice (some ad) n c0) (z39), selv l1 (.int .i64 (i' : Int)) (z40), selv l2 (.pointer (some (ad.add (i' * 6)))) (z41), selv l3 (vNode x) (z42), selv l4 (.slice (some ⟨g, 0, none⟩) 1 1) (z43), selv l5 (.slice Ao no co) (z44), selv l6 (.int .i64 (k : Int)) (z45), selv l7 (.slice Ac m3 q3) (z46), selv l8 (v2) (z47), z48, z49, z50, z51, z52, z53, z54], defers := [] } ∧ Aside0 (JP W0 x rest l4 l8 l9 g v2 V)
set_option maxHeartbeats 4000000 in
set_option maxRecDepth 100000 in
theorem redpencilref14_Children.calls (A0 : Option Addr) (c0 : Nat) (l0 : List Node) (a1_0 a1_1 : Int) (r : List Node) (w : World) (hr0 : Kd.C k53 w A0 l0.length l0) (hc0 : l0.length ≤ c0) (h : redpencilref14_Children.f l0 a1_0 a1_1 = some r) :
  Calls Tryz.prog 86 #[.slice A0 l0.length c0, .agg #[.int .i64 a1_0, .int .i64 a1_1]] w fun e w' => ∃ v0_ : Value, e = .returned v0_ ∧ Kd.R k53 53 w' w.heap.size (fun _ => True) v0_ r ∧ Below w.heap.size w w' := by
 obtain ⟨d, hd⟩ : ∃ d : Dot, d = ⟨a1_0, a1_1⟩ := ⟨_, rfl⟩
 unfold redpencilref14_Children.f at h
 rw [← hd] at h
 rw [show a1_0 = d.f0 by rw [hd], show a1_1 = d.f1 by rw [hd]]
 clear hd
 by_cases hl : l0.length ≤ 400000
 rotate_left
 ·
  rw [if_neg hl] at h; cases h
 rw [if_pos hl] at h
 obtain rfl := Option.some.inj h
 have HR := Aside0.mk hr0
 have HL := Aside0.mk hl
 have HB0 := Aside0.mk (below_alloc (Below.refl _ w) (dotC d))
 have HK0 := Aside0.mk (blk_new w (dotC d))
 have hu := Tryz.underlying53
 have hu2 := Tryz.underlying25
 clear h hr0 hc0 hl
 obtain ⟨n, Hn⟩ : ∃ n, Aside0 (l0.length = n) := ⟨_, ⟨rfl⟩⟩
 rw [Hn.out] at HR HL ⊢
 obtain ⟨B, HBe⟩ : ∃ B, Aside0 (w.heap.size = B) := ⟨_, ⟨rfl⟩⟩
 rw [HBe.out] at HK0
 go_enter Tryz.func86, Tryz.ntmps86
 go_wp2_with fail
 rw [HBe.out]
 generalize w.alloc (dotC d) = W1 at *
 go_loopw [5, 6] (fun o i wr => ∃ (i' : Nat) (Ao : Option Addr) (no co : Nat), i' ≤ n ∧ i = .int .i64 i' ∧ o = .slice Ao no co ∧ Aside0 (RN wr w.heap.size (.slice Ao no co) (kids (l0.take i') d)) ∧ Aside0 (wr.heap[B]? = some (dotC d)) ∧ Aside0 (Below w.heap.size w wr)) (fun _ i _ => n - (intOf i).toNat)
 case atStart => exact ⟨0, none, 0, 0, Nat.zero_le _, rfl, rfl, ⟨Kd.R_nil _ _ _ _ _⟩, HK0, HB0⟩
 case round =>
  obtain ⟨i', Ao, no, co, hi', rfl, rfl, HO, HK, HB⟩ := hrel
  clear HK0 HB0
  by_cases hlt : i' < n
  ·
   obtain ⟨x, Hx⟩ : ∃ x, Aside0 (l0[i']? = some x) := ⟨_, ⟨List.getElem?_eq_getElem (by rw [Hn.out]; exact hlt)⟩⟩
   obtain ⟨ad, e, g0, g1, g2, g3, g4, g5⟩ := node_at HR.out HB.out i' x Hx.out
   subst e
   obtain ⟨k0, k1⟩ := dot_cells HK.out
   have HST : Aside0 (kids (l0.take (i' + 1)) d = if x.f1 = d then insB x (kids (l0.take i') d) else kids (l0.take i') d) := ⟨kids_take_succ Hx.out⟩
   have HOC := Aside0.mk (RN.C HO.out)
   have HNO : Aside0 (no ≤ 400000) := ⟨by have h1 := HOC.out.1; have h2 := kids_le (l0.take i') d; rw [List.length_take] at h2; have := HL.out; omega⟩
   have hltn : i' < n ∧ n ≤ 400000 := ⟨hlt, HL.out⟩
   by_cases hxd : x.f1 = d
   ·
    have hne : (x.f1.f0 == d.f0 && (x.f1.f1 == d.f1)) = true := by rw [hxd]; simp
    have HXD := Aside0.mk hxd
    go_wp2
    go_quiet (fail)
    have hdq := (Gr.drawn (w := wr) ⟨nq, rfl⟩).below
    go_wp2
    clear hxd hne k0 k1 g0 g1 g2 g3 g4 g5
    have HHB := Aside0.mk (below_more HB.out hdq)
    have HHO := Aside0.mk (RN.below' HO.out hdq)
    have HHK := Aside0.mk (blk_keep HK.out hdq)
    rw [if_pos HXD.out] at HST
    have HXI : Aside0 (i' < n ∧ n ≤ 400000) := ⟨hltn⟩
    obtain ⟨out, Hout⟩ : ∃ out, Aside0 (kids (l0.take i') d = out) := ⟨_, ⟨rfl⟩⟩
    rw [Hout.out] at HHO HOC HST
    clear hdq HO HB HK
    generalize wr.drewN nq = W2 at *
    go_loopw [7] (fun j wr => ∃ k : Nat, k ≤ no ∧ j = .int .i64 k ∧ Aside0 (∀ q y, q < k → out[q]? = some y → nodeLt y x = true) ∧ Aside0 (Below W2.heap.size W2 wr)) (fun j _ => no - (intOf j).toNat)
    case atStart => exact ⟨0, Nat.zero_le _, rfl, ⟨fun q y hq => absurd hq (Nat.not_lt_zero _)⟩, ⟨Below.refl _ _⟩⟩
    case round =>
     obtain ⟨k, hk, rfl, HPRE, HB2⟩ := hrel
     have HKN : Aside0 (k ≤ no ∧ no ≤ 400000) := ⟨hk, HNO.out⟩
     obtain ⟨lt, HLT⟩ : ∃ b, Aside0 (decide (k < no) = b) := ⟨_, ⟨rfl⟩⟩
     obtain ⟨y, HY⟩ : ∃ y, Aside0 (lt = true → out[k]? = some y) := by
      by_cases h : k < no
      ·
       exact ⟨out[k]'(by rw [HOC.out.1]; exact h), ⟨fun _ => List.getElem?_eq_getElem _⟩⟩
      ·
       refine ⟨x, ⟨fun h2 => ?_⟩⟩
       rw [← HLT.out] at h2
       exact absurd (of_decide_eq_true h2) (by omega)
     obtain ⟨b, Hb⟩ : ∃ b, Aside0 (nodeLt y x = b) := ⟨_, ⟨rfl⟩⟩
     have HOW := Aside0.mk (RN.C HHO.out)
     go_wp2_with fail
     refine AnyOrder.wp_region (by kernel_rfl) (ch14aInv wr.drew ad Ao n c0 no co i' k x y lt b _ _ _ _ _ _ _ _ _ _ _ _ _ _ _ _ _ _ _ _ _ _ _ _ _ _ _ _ _ _ _ _ _ _ _ _ _ _ _ _ _ _ _ _ _ _ _ _ _ _ _) ⟨false, false, false, false, false, false, false, false, false, false, false, false, false, false, false, rfl, rfl, ⟨Below.refl _ _⟩⟩ ?step ?last
     case step =>
      rintro L ac V i ⟨l0, l1, l2, l3, l4, l5, l6, l7, l8, l9, l10, l11, l12, l13, l14, rfl, rfl, HF⟩ hi K hK
      rcases AnyOrder.up hi [0, 1, 2, 4, 3, 5, 6, 9, 10, 7, 8, 11, 12, 13, 14] rfl with rfl | rfl | rfl | rfl | rfl | rfl | rfl | rfl | rfl | rfl | rfl | rfl | rfl | rfl | rfl
      all_goals
       replace hi := AnyOrder.first hi rfl
       repeat (obtain ⟨ha, hi⟩ := hi; first | obtain rfl := ha | clear ha)
       clear hi
       try simp only [sel_true, selv_true] at hK ⊢
      iterate 4
       ·
        refine AnyOrder.wpOp_go rfl (by rfl) ?_
        go_wp2_with fail
        exact ⟨_, _, _, _, _, _, _, _, _, _, _, _, _, _, _, rfl, rfl, HF⟩
      ·
       refine AnyOrder.wpOp_go rfl (by rfl) ?_
       go_wp2_with fail
       rw [HLT.out]
       exact ⟨_, _, _, _, _, _, _, _, _, _, _, _, _, _, _, rfl, rfl, HF⟩
      iterate 4
       ·
        cases lt
        ·
         refine AnyOrder.wpOp_out rfl (by rfl) ?_
         exact hK _ _ ⟨_, _, _, _, _, _, _, _, _, _, _, _, _, _, _, rfl, rfl, HF⟩
        ·
         refine AnyOrder.wpOp_go rfl (by rfl) ?_
         go_wp2_with fail
         exact ⟨_, _, _, _, _, _, _, _, _, _, _, _, _, _, _, rfl, rfl, HF⟩
      ·
       cases lt
       ·
        refine AnyOrder.wpOp_out rfl (by rfl) ?_
        exact hK _ _ ⟨_, _, _, _, _, _, _, _, _, _, _, _, _, _, _, rfl, rfl, HF⟩
       ·
        obtain ⟨ad', e, q0, q1, q2, q3, q4, q5⟩ := node_at HOW.out.2.2 (below_more HB2.out (below_more (below_drew1 (Below.refl _ wr)) HF.out)) k y (HY.out rfl)
        subst e
        have hkk := HKN.out
        have hlt := of_decide_eq_true HLT.out
        clear q0 q1 q2 q3 q4 q5
        refine AnyOrder.wpOp_go rfl (by rfl) ?_
        go_wp2_with fail
        exact ⟨_, _, _, _, _, _, _, _, _, _, _, _, _, _, _, rfl, rfl, HF⟩
      ·
       cases lt
       ·
        refine AnyOrder.wpOp_out rfl (by rfl) ?_
        exact hK _ _ ⟨_, _, _, _, _, _, _, _, _, _, _, _, _, _, _, rfl, rfl, HF⟩
       ·
        obtain ⟨ad', e, q0, q1, q2, q3, q4, q5⟩ := node_at HOW.out.2.2 (below_more HB2.out (below_more (below_drew1 (Below.refl _ wr)) HF.out)) k y (HY.out rfl)
        subst e
        refine AnyOrder.wpOp_go rfl (by rfl) ?_
        go_wp2_with fail
        exact ⟨_, _, _, _, _, _, _, _, _, _, _, _, _, _, _, rfl, rfl, HF⟩
      ·
       cases lt
       ·
        refine AnyOrder.wpOp_out rfl (by rfl) ?_
        exact hK _ _ ⟨_, _, _, _, _, _, _, _, _, _, _, _, _, _, _, rfl, rfl, HF⟩
       ·
        have hxi := HXI.out
        refine AnyOrder.wpOp_go rfl (by rfl) ?_
        go_wp2_with fail
        exact ⟨_, _, _, _, _, _, _, _, _, _, _, _, _, _, _, rfl, rfl, HF⟩
      ·
       cases lt
       ·
        refine AnyOrder.wpOp_out rfl (by rfl) ?_
        exact hK _ _ ⟨_, _, _, _, _, _, _, _, _, _, _, _, _, _, _, rfl, rfl, HF⟩
       ·
        obtain ⟨ad', e, q0, q1, q2, q3, q4, q5⟩ := node_at HR.out (below_more HHB.out (below_more HB2.out (below_more (below_drew1 (Below.refl _ wr)) HF.out))) i' x Hx.out
        cases e
        refine AnyOrder.wpOp_go rfl (by rfl) ?_
        go_wp2_with fail
        exact ⟨_, _, _, _, _, _, _, _, _, _, _, _, _, _, _, rfl, rfl, HF⟩
      ·
       cases lt
       ·
        refine AnyOrder.wpOp_out rfl (by rfl) ?_
        exact hK _ _ ⟨_, _, _, _, _, _, _, _, _, _, _, _, _, _, _, rfl, rfl, HF⟩
       ·
        refine AnyOrder.wpOp_go rfl (by rfl) ?_
        go_wp2_with fail
        refine (redpencilref14_first.calls _ _ _ _ _ _ _ _ _ _ _ _ b V (by rw [jfirst_is, Hb.out])).mono ?_
        rintro e V' ⟨rfl, hb⟩
        exact hK _ _ ⟨_, _, _, _, _, _, _, _, _, _, _, _, _, _, _, rfl, rfl, ⟨below_more HF.out hb⟩⟩
      ·
       cases lt
       ·
        refine AnyOrder.wpOp_go rfl (by rfl) ?_
        go_wp2_with fail
        exact ⟨_, _, _, _, _, _, _, _, _, _, _, _, _, _, _, rfl, rfl, HF⟩
       ·
        refine AnyOrder.wpOp_go rfl (by rfl) ?_
        go_wp2_with fail
        exact ⟨_, _, _, _, _, _, _, _, _, _, _, _, _, _, _, rfl, rfl, HF⟩
     case last =>
      rintro L ac V ⟨l0, l1, l2, l3, l4, l5, l6, l7, l8, l9, l10, l11, l12, l13, l14, rfl, rfl, HF⟩ hr
      obtain ⟨rfl, rfl, rfl, rfl, rfl, rfl, rfl, rfl, rfl, rfl, rfl, rfl, rfl, rfl, rfl, -⟩ := AnyOrder.alls rfl (by kernel_rfl) hr
      clear hr
      simp only [sel_true, selv_true]
      have HB2 := Aside0.mk (below_more HB2.out (below_more (below_drew1 (Below.refl _ wr)) HF.out))
      clear HF
      cases hs : (lt && b) with
      | true =>
       rw [Bool.and_eq_true] at hs
       obtain ⟨h1, h2⟩ := hs
       have HPRE : Aside0 (∀ q z, q < k + 1 → out[q]? = some z → nodeLt z x = true) := ⟨fun q z hq hz => by
        rcases Nat.lt_succ_iff_lt_or_eq.1 hq with h | h
        ·
         exact HPRE.out q z h hz
        ·
         subst h
         rw [HY.out h1] at hz
         cases hz
         rw [Hb.out, h2]⟩
       have hkn : k < no := by
        have := HLT.out
        rw [h1] at this
        exact of_decide_eq_true this
       clear h1 h2
       have hkk := HKN.out
       go_wp2_with fail
       go_roundw
       case rel => exact ⟨k + 1, by omega, by go_num, HPRE, HB2⟩
       case measure => simp [intOf]; omega
      | false =>
       have HINS : Aside0 (insB x out = out.take k ++ [x] ++ out.drop k) := ⟨by
        rw [insB_cut, cutN_is (k := k) (by rw [HOC.out.1]; exact HKN.out.1) HPRE.out fun z hz => ?_, List.append_assoc]
        ·
         rfl
        ·
         have h1 : lt = true := by
          rw [← HLT.out]
          have := (List.getElem?_eq_some_iff.1 hz).1
          exact decide_eq_true (by rw [HOC.out.1] at this; exact this)
         rw [HY.out h1] at hz
         cases hz
         rw [h1] at hs
         rw [Hb.out]
         exact hs⟩
       clear hs
       generalize V = V2 at *
       have HHB := Aside0.mk (below_more HHB.out HB2.out)
       have HHO := Aside0.mk (RN.below' HHO.out HB2.out)
       have HHK := Aside0.mk (blk_keep HHK.out HB2.out)
       have HCV := Aside0.mk (RN.C HHO.out)
       obtain ⟨m3, Hm3⟩ : ∃ m3, Aside0 (no - k = m3) := ⟨_, ⟨rfl⟩⟩
       obtain ⟨q3, Hq3⟩ : ∃ q3, Aside0 (co - k = q3) := ⟨_, ⟨rfl⟩⟩
       obtain ⟨Ac, HAc⟩ : ∃ Ac, Aside0 ((if co = k then Ao else Ao.map (·.add (k * 6))) = Ac) := ⟨_, ⟨rfl⟩⟩
       have HCD : Aside0 (Kd.C k53 V2 Ac m3 (out.drop k)) := ⟨by rw [← HAc.out, ← Hm3.out]; exact C_from HCV.out.2.2 HCV.out.1 HKN.out.1 HCV.out.2.1⟩
       have HCF : Aside0 (∀ W, (Instr.sliceAt 23 (.slice Ao no co) (some (.int .i64 (k : Int))) none none).run Tryz.prog W = .ok (.slice Ac m3 q3) W) := ⟨fun W => by rw [← HAc.out, ← Hm3.out, ← Hq3.out]; exact cut_fromT Tryz.underlying23 HKN.out.1 W⟩
       have HM3 : Aside0 (m3 ≤ 400000) := ⟨by have := Hm3.out; have := HKN.out; omega⟩
       go_wp2_with fail
       refine AnyOrder.wp_region (by kernel_rfl) (ch14bInv V2.drew ad Ao Ac n c0 no co i' k m3 q3 x (out.drop k) _ _ _ _ _ _ _ _ _ _ _ _ _ _ _ _ _ _ _ _ _ _ _ _ _ _ _ _ _ _ _ _ _ _ _ _ _ _ _ _ _ _ _ _ _ _ _ _ _ _ _) ⟨false, false, false, false, false, false, false, false, false, false, 0, undef, rfl, rfl, ⟨⟨fun h => (by cases h), fun h => (by cases h), Below.refl _ _, fun h _ => (by cases h), fun h => (by cases h)⟩⟩⟩ ?step ?last
       case step =>
        rintro L ac V i ⟨l0, l1, l2, l3, l4, l5, l6, l7, l8, l9, g, v2, rfl, rfl, HF⟩ hi K hK
        rcases AnyOrder.up hi [0, 1, 5, 6, 2, 3, 4, 7, 8, 9] rfl with rfl | rfl | rfl | rfl | rfl | rfl | rfl | rfl | rfl | rfl
        all_goals
         replace hi := AnyOrder.first hi rfl
         repeat (obtain ⟨ha, hi⟩ := hi; first | obtain rfl := ha | clear ha)
         clear hi
         try simp only [sel_true, selv_true] at hK ⊢
        iterate 4
         ·
          refine AnyOrder.wpOp_go rfl (by rfl) ?_
          go_wp2_with fail
          exact ⟨_, _, _, _, _, _, _, _, _, _, g, v2, rfl, rfl, HF⟩
        ·
         have hxi := HXI.out
         refine AnyOrder.wpOp_go rfl (by rfl) ?_
         go_wp2_with fail
         exact ⟨_, _, _, _, _, _, _, _, _, _, g, v2, rfl, rfl, HF⟩
        ·
         obtain ⟨ad', e, q0, q1, q2, q3, q4, q5⟩ := node_at HR.out (below_more HHB.out (below_more (below_drew1 (Below.refl _ V2)) HF.out.below)) i' x Hx.out
         cases e
         refine AnyOrder.wpOp_go rfl (by rfl) ?_
         go_wp2_with fail
         exact ⟨_, _, _, _, _, _, _, _, _, _, g, v2, rfl, rfl, HF⟩
        ·
         obtain rfl : l8 = false := by cases l8 with | false => rfl | true => cases HF.out.ord5 rfl
         obtain rfl : l9 = false := by cases l9 with | false => rfl | true => cases HF.out.ord6 rfl
         (try simp only [selv_false] at hK ⊢)
         refine AnyOrder.wpOp_go rfl (by rfl) ?_
         go_wp2_with fail
         exact ⟨_, _, _, _, _, _, _, _, _, _, V.heap.size, v2, rfl, rfl, ⟨⟨fun h => (by cases h), fun h => (by cases h), below_more HF.out.below (below_alloc (Below.refl _ V) (boxN x)), fun _ _ => lit_nodes V V2.drew.heap.size HF.out.below.size [x] 1 rfl (by decide) (by decide) #[.int .i64 x.f0.f0, .int .i64 x.f0.f1, .int .i64 x.f1.f0, .int .i64 x.f1.f1, .int .i64 x.f2, .int .i32 x.f3] rfl, fun h => (by cases h)⟩⟩⟩
        ·
         refine AnyOrder.wpOp_go rfl (by rfl) ?_
         refine op_slice 23 (.tmp 44) (some (.tmp 45)) none rfl rfl rfl rfl (HCF.out V) ?_
         exact hK _ _ ⟨_, _, _, _, _, _, _, _, _, _, g, v2, rfl, rfl, HF⟩
        ·
         obtain rfl : l9 = false := by cases l9 with | false => rfl | true => cases HF.out.ord6 rfl
         have hr1 := HF.out.r1 rfl rfl
         (try simp only [selv_false] at hK ⊢)
         refine AnyOrder.wpOp_go rfl (by rfl) ?_
         refine op_append_rows Tryz.underlying23 V2.drew.heap.size rfl (.tmp 43) (.tmp 46) rfl (.slice (some ⟨g, 0, none⟩) 1 1) [x] (out.drop k) Ac m3 q3 rfl rfl hr1 (Kd.C_below HCD.out (below_more (below_drew1 (Below.refl _ V2)) HF.out.below)) HF.out.below.size (by have := HM3.out; simp only [List.length_cons, List.length_nil]; omega) ?_
         intro v3 W3 h1 h2 _
         exact hK _ _ ⟨_, _, _, _, _, _, _, _, _, _, g, v3, rfl, rfl, ⟨⟨fun _ => rfl, fun h => (by cases h), grown_below HF.out.below hr1 h2, fun _ => fun h => (by cases h), fun _ => h1⟩⟩⟩
        ·
         refine AnyOrder.wpOp_go rfl (by rfl) ?_
         go_wp2_with fail
         exact ⟨_, _, _, _, _, _, _, _, _, _, g, v2, rfl, rfl, ⟨⟨HF.out.ord5, fun _ => rfl, HF.out.below, HF.out.r1, HF.out.r2⟩⟩⟩
       case last =>
        rintro L ac V ⟨l0, l1, l2, l3, l4, l5, l6, l7, l8, l9, g, v2, rfl, rfl, HF⟩ hr
        obtain ⟨rfl, rfl, rfl, rfl, rfl, rfl, rfl, rfl, rfl, rfl, -⟩ := AnyOrder.alls rfl (by kernel_rfl) hr
        clear hr
        simp only [sel_true, selv_true]
        have HR2 := Aside0.mk (HF.out.r2 rfl)
        have HB3 := Aside0.mk (below_more (below_drew1 (Below.refl _ V2)) HF.out.below)
        have HHB := Aside0.mk (below_more HHB.out HB3.out)
        have HHK := Aside0.mk (blk_keep HHK.out HB3.out)
        obtain ⟨A2, c2, rfl⟩ := RN.slice HR2.out
        have HL2 : Aside0 (([x] ++ out.drop k).length = m3 + 1) := ⟨by rw [List.length_append, List.length_drop, HCV.out.1, Hm3.out]; simp; omega⟩
        rw [HL2.out] at HR2 ⊢
        have HCR := Aside0.mk (RN.C HR2.out)
        have HCT := Aside0.mk (C_to (Kd.C_below HCV.out.2.2 HB3.out) HCV.out.1 HKN.out.1)
        have hkk := HKN.out
        have hcc := HCV.out.2.1
        clear HF
        go_wp2_with (first | (at_builtin; refine app_rows Tryz.underlying23 V.heap.size rfl (.const (.slice none 0 0)) (.tmp 50) rfl (.slice none 0 0) [] (out.take k) Ao k co rfl rfl (Kd.R_nil _ _ _ _ _) HCT.out (Nat.le_refl _) (by simp only [List.length_nil]; omega) ?_; intro v8 W8 hr8 hg8) | (at_builtin; refine app_rows Tryz.underlying23 V.heap.size rfl (.tmp 51) (.tmp 52) rfl v8 ([] ++ out.take k) ([x] ++ out.drop k) A2 (m3 + 1) c2 rfl rfl hr8 (Kd.C_below HCR.out.2.2 (grown_nil hg8)) (grown_nil hg8).size (by have := HM3.out; rw [List.nil_append, List.length_take]; omega) ?_; intro v9 W9 hr9 hg9) | fail)
        rw [List.nil_append, ← List.append_assoc, ← HINS.out] at hr9
        have hbb := grown_below (grown_nil hg8) hr8 hg9
        have HB := Aside0.mk (below_more HHB.out hbb)
        have HK := Aside0.mk (blk_keep HHK.out hbb)
        have HO := Aside0.mk (Kd.R_lower hr9 HHB.out.size)
        obtain ⟨A9, c9, rfl⟩ := RN.slice HO.out
        obtain ⟨n9, Hn9⟩ : ∃ q, Aside0 ((insB x out).length = q) := ⟨_, ⟨rfl⟩⟩
        rw [Hn9.out] at HO ⊢
        have hxi := HXI.out
        clear hr8 hg8 hr9 hg9 hbb
        go_wp2
        go_roundw
        case rel => exact ⟨i' + 1, A9, n9, c9, by omega, by go_num, rfl, ⟨by rw [HST.out]; exact HO.out⟩, HK, HB⟩
        case measure => simp [intOf] <;> omega
   ·
    have hne : (x.f1.f0 == d.f0 && (x.f1.f1 == d.f1)) = false := by
     rw [Bool.eq_false_iff]
     intro h
     simp only [Bool.and_eq_true, beq_iff_eq] at h
     exact hxd (Dot.ext_iff'.2 h)
    rw [if_neg hxd] at HST
    clear hxd
    go_wp2
    go_quiet (fail)
    have hdq := (Gr.drawn (w := wr) ⟨nq, rfl⟩).below
    go_wp2
    go_roundw
    case rel => exact ⟨i' + 1, Ao, no, co, by omega, by go_num, rfl, ⟨by rw [HST.out]; exact RN.below' HO.out hdq⟩, ⟨blk_keep HK.out hdq⟩, ⟨below_more HB.out hdq⟩⟩
    case measure => simp [intOf] <;> omega
  ·
   obtain rfl : i' = n := by omega
   rw [List.take_of_length_le (Nat.le_of_eq Hn.out)] at HO
   go_wp2
   go_ret
   exact ⟨_, rfl, HO.out, HB.out⟩
end Go.Proofs.YtmbndijbpgobeaaGreat.PWalk
end
section
namespace Go.Proofs.YtmbndijbpgobeaaGreat.PWalk
open Go.RowKit Go.Proofs.YtmbndijbpgobeaaGreatW.PrintWords Go.Proofs.YtmbndijbpgobeaaGreatW.PrintLast Go.Proofs.YtmbndijbpgobeaaGreatW.PrintMore
set_option linter.unusedVariables false
set_option linter.unusedSimpArgs false
open Go.Shelf
attribute [local go_sem] Oper.semAt_some
def redpencilref14_Order.f (l0 : List Node) : Option (List Node) := if l0.length ≤ 400000 ∧ storeOk l0 = true then some (nds (ordOf l0)) else none
theorem nds_dep (c : Nat) (l : List Node) : nds (l.map fun y => (c, y)) = l := by
 unfold nds
 simp [Function.comp_def]
/-- What has come up where the rest of the stack is put after the children. -/
structure OP (W0 : World) (ks tl : List Node) (l3 l4 l6 l7 : Bool) (va vb : Value) (V : World) : Prop where
 ord6 : l6 = true → l3 = true
 ord7 : l7 = true → l6 = true ∧ l4 = true
 below : Below W0.heap.size W0 V
 r1 : l3 = true → l6 = false → RN V W0.heap.size va ks
 r2 : l6 = true → RN V W0.heap.size vb (ks ++ tl)
def or14Inv (W0 : World) (A0 Ao Ac : Option Addr) (ad : Addr) (n c0 no co nt ct m3 q3 NB : Nat) (x : Node) (ks tl : List Node) (z1 z6 z7 z8 z9 z10 z11 z12 z13 z14 z15 z16 z17 z18 z19 z20 z21 z22 z23 z24 z25 z26 : Value) (L : Array Bool) (ac : Act) (V : World) : Prop := ∃ (l0 l1 l2 l3 l4 l5 l6 l7 : Bool) (va : Value) (vb : Value), L = #[l0, l1, l2, l3, l4, l5, l6, l7] ∧ ac = { tmps := #[.slice A0 n c0, z1, .slice none 0 0, .slice Ao no co, selv l7 (vb) (.slice (some ad) nt ct), .pointer (some ⟨NB, 0, none⟩), z6, z7, z8, z9, z10, z11, z12, z13, z14, z15, z16, z17, z18, selv l0 (.slice A0 n c0) (z19), selv l1 (.pointer (some ⟨NB, 0, none⟩)) (z20), selv l2 (.agg #[.int .i64 x.f0.f0, .int .i64 x.f0.f1]) (z21), selv l3 (va) (z22), selv l4 (.slice (some ad) nt ct) (z23), selv l5 (.slice Ac m3 q3) (z24), selv l6 (vb) (z25), z26], defers := [] } ∧ Aside0 (OP W0 ks tl l3 l4 l6 l7 va vb V)
set_option maxHeartbeats 4000000 in
set_option maxRecDepth 100000 in
theorem redpencilref14_Order.calls (A0 : Option Addr) (c0 : Nat) (l0 : List Node) (r : List Node) (w : World) (hr0 : Kd.C k53 w A0 l0.length l0) (hc0 : l0.length ≤ c0) (h : redpencilref14_Order.f l0 = some r) :
  Calls Tryz.prog 62 #[.slice A0 l0.length c0] w fun e w' => ∃ v0_ : Value, e = .returned v0_ ∧ Kd.R k53 53 w' w.heap.size (fun _ => True) v0_ r ∧ Below w.heap.size w w' := by
 unfold redpencilref14_Order.f at h
 by_cases hl : l0.length ≤ 400000 ∧ storeOk l0 = true
 rotate_left
 ·
  rw [if_neg hl] at h; cases h
 rw [if_pos hl] at h
 obtain rfl := Option.some.inj h
 obtain ⟨n, Hn⟩ : ∃ n, Aside0 (l0.length = n) := ⟨_, ⟨rfl⟩⟩
 have HL : Aside0 (n ≤ 400000) := ⟨by rw [← Hn.out]; exact hl.1⟩
 have HS : Aside0 (Store l0) := ⟨store_of hl.2⟩
 have HCH : Aside0 (∀ (d : Dot) (W : World), Below w.heap.size w W → Calls Tryz.prog 86 #[.slice A0 n c0, .agg #[.int .i64 d.f0, .int .i64 d.f1]] W fun e w' => ∃ v0_ : Value, e = .returned v0_ ∧ RN w' W.heap.size v0_ (kids l0 d) ∧ Below W.heap.size W w') := ⟨fun d W hb => by
  rw [← Hn.out]
  exact redpencilref14_Children.calls A0 c0 l0 d.f0 d.f1 (kids l0 d) W (Kd.C_below hr0 hb) hc0 (by unfold redpencilref14_Children.f; rw [if_pos hl.1])⟩
 rw [Hn.out]
 clear h hl hr0 hc0
 have hu := Tryz.underlying53
 go_enter Tryz.func62, Tryz.ntmps62
 go_wp2_with fail
 refine (HCH.out ⟨0, 0⟩ w (Below.refl _ w)).mono ?_
 rintro e W1 ⟨vt, rfl, hrt, hbt⟩
 obtain ⟨At0, ct0, rfl⟩ := RN.slice hrt
 obtain ⟨nt0, Hnt0⟩ : ∃ k, Aside0 ((kids l0 ⟨0, 0⟩).length = k) := ⟨_, ⟨rfl⟩⟩
 rw [Hnt0.out] at hrt ⊢
 have HT0 := Aside0.mk hrt
 have HB0 := Aside0.mk hbt
 clear hrt hbt
 have HP0 : Aside0 (∀ p ∈ (kids l0 ⟨0, 0⟩).map (fun y => (0, y)), ∃ U, Path l0 p.2.f0 U) := ⟨fun p hp => by
  obtain ⟨y, hy, rfl⟩ := List.mem_map.1 hp
  obtain ⟨h1, h2⟩ := mem_kids.1 hy
  exact ⟨[y], Path.step _ _ y .root h1 h2⟩⟩
 obtain ⟨N, HN⟩ : ∃ N, Aside0 ((nds (ordOf l0)).length = N) := ⟨_, ⟨rfl⟩⟩
 have HNL : Aside0 (N ≤ 400000) := ⟨by rw [← HN.out]; unfold nds; rw [List.length_map]; have h1 := ord_le HS.out; have h2 := Hn.out; have h3 := HL.out; omega⟩
 go_wp2
 go_loopw [3, 4] (fun s q wr => ∃ (Ao At : Option Addr) (no co nt ct : Nat) (T : List (Nat × Node)) (dn : List Node), s = .slice Ao no co ∧ q = .slice At nt ct ∧ Aside0 (RN wr w.heap.size (.slice Ao no co) dn) ∧ Aside0 (RN wr w.heap.size (.slice At nt ct) (nds T)) ∧ Aside0 (dn ++ nds (restOf l0 T) = nds (ordOf l0)) ∧ Aside0 (∀ p ∈ T, ∃ U, Path l0 p.2.f0 U) ∧ Aside0 (∀ g, (Value.slice Ao no co).ownBlock = some g → (Value.slice At nt ct).ownBlock ≠ some g) ∧ Aside0 (Below w.heap.size w wr)) (fun o _ _ => N - lenV o)
 case atStart =>
  refine ⟨none, At0, 0, 0, nt0, ct0, (kids l0 ⟨0, 0⟩).map (fun y => (0, y)), [], rfl, rfl, ⟨Kd.R_nil _ _ _ _ _⟩, ⟨?_⟩, ⟨?_⟩, HP0, ⟨fun g hg => (by cases hg)⟩, HB0⟩
  ·
   rw [nds_dep]; exact HT0.out
  ·
   rw [restOf_kids HS.out .root 0]; rfl
 case round =>
  obtain ⟨Ao, At, no, co, nt, ct, T, dn, rfl, rfl, HO, HT, HE, HP, HD, HB⟩ := hrel
  clear HT0 HB0 HP0
  have HLO : Aside0 (dn.length = no) := ⟨(RN.C HO.out).1⟩
  have HLT : Aside0 (T.length = nt) := ⟨by have := (RN.C HT.out).1; unfold nds at this; simpa using this⟩
  by_cases hlt : 0 < nt
  ·
   obtain ⟨p, T', rfl⟩ : ∃ p T', T = p :: T' := by
    cases T with
    | nil => have := HLT.out; simp at this; omega
    | cons p T' => exact ⟨p, T', rfl⟩
   obtain ⟨U, hU⟩ := HP.out p List.mem_cons_self
   have HU := Aside0.mk hU
   clear hU
   have HE2 : Aside0 (dn ++ [p.2] ++ nds (restOf l0 ((kids l0 p.2.f0).map (fun y => (p.1 + 1, y)) ++ T')) = nds (ordOf l0)) := ⟨by
    rw [← HE.out, restOf_cons HS.out HU.out]; simp [nds]⟩
   have HP2 : Aside0 (∀ q ∈ (kids l0 p.2.f0).map (fun y => (p.1 + 1, y)) ++ T', ∃ U, Path l0 q.2.f0 U) := ⟨fun q hq => by
    rcases List.mem_append.1 hq with hq | hq
    ·
     obtain ⟨y, hy, rfl⟩ := List.mem_map.1 hq
     obtain ⟨h1, h2⟩ := mem_kids.1 hy
     exact ⟨y :: U, Path.step _ _ y HU.out h1 h2⟩
    ·
     exact HP.out q (List.mem_cons_of_mem _ hq)⟩
   have HNO : Aside0 (no < N ∧ N ≤ 400000) := ⟨by
    have h1 := congrArg List.length HE2.out
    rw [HN.out] at h1
    simp only [List.length_append, List.length_cons, List.length_nil] at h1
    have := HLO.out
    omega, HNL.out⟩
   have HNT : Aside0 (nt ≤ 400000) := ⟨by
    have h1 := congrArg List.length HE.out
    rw [HN.out, List.length_append] at h1
    have h2 := restOf_le l0 (p :: T')
    have h3 : (nds (restOf l0 (p :: T'))).length = (restOf l0 (p :: T')).length := List.length_map _
    have := HLT.out
    have := HNO.out
    omega⟩
   have HTL : Aside0 ((nds (p :: T')).length = nt) := ⟨by unfold nds; rw [List.length_map]; exact HLT.out⟩
   clear HE HP HU
   obtain ⟨x, Hx⟩ : ∃ x, Aside0 (p.2 = x) := ⟨_, ⟨rfl⟩⟩
   obtain ⟨ad, e, y0, y1, y2, y3, y4, y5⟩ := node_at (RN.C HT.out).2.2 (Below.refl _ wr) 0 x (by rw [← Hx.out]; rfl)
   subst e
   have hlt2 : 0 < nt ∧ nt ≤ 400000 := ⟨hlt, HNT.out⟩
   rw [show ad.add (0 * 6) = ad by simp [Addr.add]] at y0 y1 y2 y3 y4 y5
   go_upto_region 5 with (fail)
   obtain ⟨NB, HNB⟩ : ∃ q, Aside0 (wr.heap.size = q) := ⟨_, ⟨rfl⟩⟩
   have HKB : Aside0 ((wr.alloc (boxN x)).heap[NB]? = some (boxN x)) := ⟨by rw [← HNB.out]; exact blk_new wr _⟩
   have HOB : Aside0 (∀ g, (Value.slice Ao no co).ownBlock = some g → g < NB) := ⟨fun g hg => by rw [← HNB.out]; exact RN.lt HO.out hg⟩
   have hb0 := below_alloc (Below.refl wr.heap.size wr) (boxN x)
   have HO := Aside0.mk (RN.below' HO.out hb0)
   have HT := Aside0.mk (RN.below' HT.out hb0)
   have HB := Aside0.mk (below_more HB.out hb0)
   rw [HNB.out]
   clear y0 y1 y2 y3 y4 y5 hb0 HNB
   generalize wr.alloc (boxN x) = V1 at *
   obtain ⟨b0, b1, b2, b3, b4, b5⟩ := box_six HKB.out
   go_upto_region 6 with (at_builtin; refine app_rows Tryz.underlying23 w.heap.size rfl (.tmp 15) (.tmp 17) rfl (.slice Ao no co) dn [x] (some ⟨V1.heap.size, 0, none⟩) 1 1 rfl rfl (RN.below' HO.out (below_alloc (Below.refl _ V1) _)) (Kd.R_reads' (lit_nodes V1 0 (Nat.zero_le _) [x] 1 rfl (by decide) (by decide) _ rfl)).2.2 (by rw [World.size_alloc]; exact Nat.le_succ_of_le HB.out.size) (by have := HLO.out; have := HNO.out; omega) ?_; intro v1 W2 hr1 hg1)
   have hVT := RN.below' HT.out (below_alloc (Below.refl _ V1) (boxN x))
   have hVK := blk_alloc HKB.out (boxN x)
   have HT2 : Aside0 (RN W2 w.heap.size (.slice (some ad) nt ct) (nds (p :: T'))) := ⟨hVT.keep fun g hg => hg1.block g (RN.lt hVT hg) fun e => HD.out g e.symm hg⟩
   have HKB2 : Aside0 (W2.heap[NB]? = some (boxN x)) := ⟨(hg1.block NB (blk_lt hVK) fun e => Nat.lt_irrefl _ (HOB.out NB e.symm)).trans hVK⟩
   have HB2 := Aside0.mk (grown_below (below_alloc HB.out (boxN x)) (RN.below' HO.out (below_alloc (Below.refl _ V1) (boxN x))) hg1)
   have HO2 := Aside0.mk hr1
   clear b0 b1 b2 b3 b4 b5 hVT hVK hr1 hg1 HO HB HT HD HOB HKB
   have HT := Aside0.mk HT2.out
   have HKB := Aside0.mk HKB2.out
   have HB := Aside0.mk HB2.out
   have HO := Aside0.mk HO2.out
   clear HT2 HKB2 HB2 HO2
   obtain ⟨A3, c3, rfl⟩ := RN.slice HO.out
   have HL3 : Aside0 ((dn ++ [x]).length = no + 1) := ⟨by rw [List.length_append, HLO.out]; rfl⟩
   rw [HL3.out] at HO ⊢
   obtain ⟨m3, Hm3⟩ : ∃ m3, Aside0 (nt - 1 = m3) := ⟨_, ⟨rfl⟩⟩
   obtain ⟨q3, Hq3⟩ : ∃ q3, Aside0 (ct - 1 = q3) := ⟨_, ⟨rfl⟩⟩
   obtain ⟨Ac, HAc⟩ : ∃ Ac, Aside0 ((if ct = 1 then some ad else (some ad).map (·.add (1 * 6))) = Ac) := ⟨_, ⟨rfl⟩⟩
   obtain ⟨tl, Htl⟩ : ∃ tl, Aside0 (nds T' = tl) := ⟨_, ⟨rfl⟩⟩
   have HCT := Aside0.mk (RN.C HT.out)
   have HCD : Aside0 (Kd.C k53 W2 Ac m3 tl) := ⟨by rw [← HAc.out, ← Hm3.out, ← Htl.out]; exact C_from HCT.out.2.2 HTL.out hlt HCT.out.2.1⟩
   have HCF : Aside0 (∀ W, (Instr.sliceAt 23 (.slice (some ad) nt ct) (some (.int .i64 1)) none none).run Tryz.prog W = .ok (.slice Ac m3 q3) W) := ⟨fun W => by rw [← HAc.out, ← Hm3.out, ← Hq3.out]; exact cut_fromT Tryz.underlying23 (k := 1) hlt W⟩
   have HM3 : Aside0 ((kids l0 x.f0).length + m3 ≤ 1000000) := ⟨by have h1 := kids_le l0 x.f0; have := Hm3.out; have := HNT.out; have := Hn.out; have := HL.out; omega⟩
   have HCX : Aside0 (∀ (W : World), Below w.heap.size w W → Calls Tryz.prog 86 #[.slice A0 n c0, .agg #[.int .i64 x.f0.f0, .int .i64 x.f0.f1]] W fun e w' => ∃ v0_ : Value, e = .returned v0_ ∧ RN w' W.heap.size v0_ (kids l0 x.f0) ∧ Below W.heap.size W w') := ⟨HCH.out x.f0⟩
   obtain ⟨ks, Hks⟩ : ∃ ks, Aside0 (kids l0 x.f0 = ks) := ⟨_, ⟨rfl⟩⟩
   rw [Hks.out] at HM3 HCX
   clear HCT hlt2
   refine AnyOrder.wp_region (by kernel_rfl) (or14Inv W2.drew A0 A3 Ac ad n c0 (no + 1) c3 nt ct m3 q3 NB x ks tl _ _ _ _ _ _ _ _ _ _ _ _ _ _ _ _ _ _ _ _ _ _) ⟨false, false, false, false, false, false, false, false, undef, undef, rfl, rfl, ⟨⟨fun h => (by cases h), fun h => (by cases h), Below.refl _ _, fun h => (by cases h), fun h => (by cases h)⟩⟩⟩ ?step ?last
   case step =>
    rintro L ac V i ⟨l0, l1, l2, l3, l4, l5, l6, l7, va, vb, rfl, rfl, HF⟩ hi K hK
    rcases AnyOrder.up hi [0, 1, 2, 3, 4, 5, 6, 7] rfl with rfl | rfl | rfl | rfl | rfl | rfl | rfl | rfl
    all_goals
     replace hi := AnyOrder.first hi rfl
     repeat (obtain ⟨ha, hi⟩ := hi; first | obtain rfl := ha | clear ha)
     clear hi
     try simp only [sel_true, selv_true] at hK ⊢
    iterate 2
     ·
      refine AnyOrder.wpOp_go rfl (by rfl) ?_
      go_wp2_with fail
      exact ⟨_, _, _, _, _, _, _, _, va, vb, rfl, rfl, HF⟩
    ·
     have k0 := (blk_cell (blk_keep HKB.out (below_more (below_drew1 (Below.refl _ W2)) HF.out.below)) 0).trans rfl
     have k1 := (blk_cell (blk_keep HKB.out (below_more (below_drew1 (Below.refl _ W2)) HF.out.below)) 1).trans rfl
     refine AnyOrder.wpOp_go rfl (by rfl) ?_
     go_wp2_with fail
     exact ⟨_, _, _, _, _, _, _, _, va, vb, rfl, rfl, HF⟩
    ·
     obtain rfl : l6 = false := by cases l6 with | false => rfl | true => cases HF.out.ord6 rfl
     obtain rfl : l7 = false := by cases l7 with | false => rfl | true => cases (HF.out.ord7 rfl).1
     (try simp only [selv_false] at hK ⊢)
     refine AnyOrder.wpOp_go rfl (by rfl) ?_
     go_wp2_with fail
     refine (HCX.out V (below_more HB.out (below_more (below_drew1 (Below.refl _ W2)) HF.out.below))).mono ?_
     rintro e V' ⟨v', rfl, hr, hb⟩
     exact hK _ _ ⟨_, _, _, _, _, _, _, _, v', vb, rfl, rfl, ⟨⟨fun h => (by cases h), fun h => (by cases h), below_more HF.out.below hb, fun _ _ => Kd.R_lower hr HF.out.below.size, fun h => (by cases h)⟩⟩⟩
    ·
     obtain rfl : l7 = false := by cases l7 with | false => rfl | true => cases (HF.out.ord7 rfl).2
     (try simp only [selv_false] at hK ⊢)
     refine AnyOrder.wpOp_go rfl (by rfl) ?_
     go_wp2_with fail
     exact ⟨_, _, _, _, _, _, _, _, va, vb, rfl, rfl, ⟨⟨HF.out.ord6, fun h => (by cases h), HF.out.below, HF.out.r1, HF.out.r2⟩⟩⟩
    ·
     refine AnyOrder.wpOp_go rfl (by rfl) ?_
     refine op_slice 23 (.tmp 23) (some (.const (.int .i64 1))) none rfl rfl rfl rfl (HCF.out V) ?_
     exact hK _ _ ⟨_, _, _, _, _, _, _, _, va, vb, rfl, rfl, HF⟩
    ·
     obtain rfl : l7 = false := by cases l7 with | false => rfl | true => cases (HF.out.ord7 rfl).1
     have hr1 := HF.out.r1 rfl rfl
     (try simp only [selv_false] at hK ⊢)
     refine AnyOrder.wpOp_go rfl (by rfl) ?_
     refine op_append_rows Tryz.underlying23 W2.drew.heap.size rfl (.tmp 22) (.tmp 24) rfl va ks tl Ac m3 q3 rfl rfl hr1 (Kd.C_below HCD.out (below_more (below_drew1 (Below.refl _ W2)) HF.out.below)) HF.out.below.size (by have := HM3.out; omega) ?_
     intro v3 W3 h1 h2 _
     exact hK _ _ ⟨_, _, _, _, _, _, _, _, va, v3, rfl, rfl, ⟨⟨fun _ => rfl, fun h => (by cases h), grown_below HF.out.below hr1 h2, fun _ => fun h => (by cases h), fun _ => h1⟩⟩⟩
    ·
     refine AnyOrder.wpOp_go rfl (by rfl) ?_
     go_wp2_with fail
     exact ⟨_, _, _, _, _, _, _, _, va, vb, rfl, rfl, ⟨⟨HF.out.ord6, fun _ => ⟨rfl, rfl⟩, HF.out.below, HF.out.r1, HF.out.r2⟩⟩⟩
   case last =>
    rintro L ac V ⟨l0, l1, l2, l3, l4, l5, l6, l7, va, vb, rfl, rfl, HF⟩ hr
    obtain ⟨rfl, rfl, rfl, rfl, rfl, rfl, rfl, rfl, -⟩ := AnyOrder.alls rfl (by kernel_rfl) hr
    clear hr
    simp only [sel_true, selv_true]
    have HR2 := Aside0.mk (HF.out.r2 rfl)
    have HB3 := Aside0.mk (below_more (below_drew1 (Below.refl _ W2)) HF.out.below)
    obtain ⟨A9, c9, rfl⟩ := RN.slice HR2.out
    have HO9 := Aside0.mk (RN.below' HO.out HB3.out)
    have HD9 : Aside0 (∀ g, (Value.slice A3 (no + 1) c3).ownBlock = some g → (Value.slice A9 (ks ++ tl).length c9).ownBlock ≠ some g) := ⟨fun g hg hg2 => Nat.lt_irrefl _ (Nat.lt_of_lt_of_le (RN.lt HO.out hg) (RN.block HR2.out hg2).1)⟩
    obtain ⟨n9, Hn9⟩ : ∃ q, Aside0 ((ks ++ tl).length = q) := ⟨_, ⟨rfl⟩⟩
    rw [Hn9.out] at HR2 HD9 ⊢
    have HB9 := Aside0.mk (below_more HB.out HB3.out)
    have HRL := Aside0.mk (Kd.R_lower HR2.out (show w.heap.size ≤ W2.drew.heap.size from HB.out.size))
    clear HF HB HO HT HKB HCF HCD HB3
    go_wp2
    go_roundw
    case rel =>
     refine ⟨A3, A9, no + 1, c3, n9, c9, (kids l0 p.2.f0).map (fun y => (p.1 + 1, y)) ++ T', dn ++ [x], rfl, rfl, HO9, ⟨?_⟩, ⟨by rw [← Hx.out]; exact HE2.out⟩, HP2, HD9, HB9⟩
     rw [show nds ((kids l0 p.2.f0).map (fun y => (p.1 + 1, y)) ++ T') = ks ++ tl by rw [← Htl.out, ← Hks.out, ← Hx.out]; unfold nds; rw [List.map_append]; exact congrArg (· ++ _) (nds_dep _ _)]
     exact HRL.out
    case measure => have := HNO.out; simp [lenV]; omega
  ·
   obtain rfl : T = [] := List.eq_nil_of_length_eq_zero (by have := HLT.out; omega)
   have HE : Aside0 (dn = nds (ordOf l0)) := ⟨by rw [← HE.out]; simp [restOf, nds]⟩
   rw [HE.out] at HO
   go_wp2
   go_ret
   exact ⟨_, rfl, HO.out, HB.out⟩
end Go.Proofs.YtmbndijbpgobeaaGreat.PWalk
end
section
namespace Go.Proofs.YtmbndijbpgobeaaGreat.PWalk
open Go.RowKit Go.Proofs.YtmbndijbpgobeaaGreatW.PrintWords Go.Proofs.YtmbndijbpgobeaaGreatW.PrintLast Go.Proofs.YtmbndijbpgobeaaGreatW.PrintMore
attribute [local go_sem] max2_int max_two
set_option linter.unusedVariables false
set_option linter.unusedSimpArgs false
def redpencilref14_Visible.l0 : Nat → List (S53) → List (S53) → Int → Option ((List (S53)))
 | 0, _, _, _ => none
 | k + 1, x3, x4, x5 => if x5 < (x4.length : Int) then (if 0 ≤ x5 then (if ((rd_T53 x4 x5).f3) = 0 then (redpencilref14_Visible.l0 k x3 x4 (wrap64 (x5 + 1))) else (if x3.length < 2932031007402 then (redpencilref14_Visible.l0 k (x3 ++ [(⟨(⟨(rd_T53 x4 x5).f0.f0, (rd_T53 x4 x5).f0.f1⟩ : S25), (⟨(rd_T53 x4 x5).f1.f0, (rd_T53 x4 x5).f1.f1⟩ : S25), (rd_T53 x4 x5).f2, (rd_T53 x4 x5).f3⟩ : S53)]) x4 (wrap64 (x5 + 1))) else (none))) else (none)) else (some x3)
def redpencilref14_Visible.f (k : Nat) (l0 : List (S53)) : Option ((List (S53))) := (redpencilref14_Order.f l0).bind fun t264 => (redpencilref14_Visible.l0 k ([] : List (S53)) t264 0)
set_option maxHeartbeats 8000000 in
set_option maxRecDepth 100000 in
theorem redpencilref14_Visible.calls (k : Nat) (A0 : Option Addr) (c0 : Nat) (l0 : List (S53)) (r : List (S53)) (w : World) (hr0 : Kd.C k53 w A0 l0.length l0) (hc0 : l0.length ≤ c0) (h : redpencilref14_Visible.f k l0 = some r) :
  Calls Tryz.prog 38 #[.slice A0 l0.length c0] w fun e w' => ∃ v0_ : Value, e = .returned (v0_) ∧ Kd.R k53 53 w' w.heap.size (fun _ => True) v0_ r ∧ Below w.heap.size w w' := by
 have hu53 := Tryz.underlying53
 have HR0 := Aside0.mk hr0
 have HC0 := Aside0.mk hc0
 clear hr0 hc0
 have HB := Aside0.mk (Below.refl w.heap.size w)
 have H : ((redpencilref14_Order.f l0).bind fun t264 => (redpencilref14_Visible.l0 k ([] : List (S53)) t264 0)) = some r := h
 clear h
 replace H := Option.bind_eq_some_iff.mp H
 obtain ⟨t264, A20, H⟩ := H
 replace H : (redpencilref14_Visible.l0 k ([] : List (S53)) t264 0) = some r := H
 have A2 := Aside0.mk A20
 clear A20
 have H' := Aside0.mk H
 clear H
 go_enter Tryz.func38, Tryz.ntmps38
 go_wp2_with (first | ((with_reducible refine gate_callee (f := 62) rfl ?_); refine goesL_ (some 7) rfl rfl Tryz.func62 (by kernel_rfl) rfl #[.slice A0 l0.length c0] rfl (by (try simp only [List.map_toArray, List.map_cons, List.map_nil]); first | done | rfl | (simp only [List.length_drop, List.length_take]; rfl)) ?_; (with_reducible refine (redpencilref14_Order.calls _ _ l0 t264 _ ?side1 ?side2 A2.out).mono ?_); (case side1 => repeat (first | exact HR0.out | (with_reducible refine Kd.C_alloc ?_ _) | (with_reducible refine Kd.C_drewN ?_ _) | (with_reducible refine Kd.C_drew ?_))); (case side2 => exact HC0.out); rintro e w3 ⟨v265, rfl, ho0, hb⟩; refine ⟨_, rfl, ?_⟩; have n0_ := Aside0.mk (Kd.R_lower ho0 (below_size (by repeat (first | (with_reducible first | exact HB.out | apply below_alloc | apply pw_below_drewN | apply below_drew1) | exact HB.out)))); have n1_ := Aside0.mk (below_step (by repeat (first | (with_reducible first | exact HB.out | apply below_alloc | apply pw_below_drewN | apply below_drew1) | exact HB.out)) hb); clear HB; have HO266 := n0_; have HB := n1_; clear n0_ n1_; (try clear hb); (try clear hb2); (try clear hk); (try clear hi); (try clear ho0)))
 go_loopg [3, 5] k (fun kq v3 v5 w' => ∃ (x3_1 : List (S53)) (x5_1 : Int), v5 = .int .i64 x5_1 ∧ Aside0 (redpencilref14_Visible.l0 kq x3_1 t264 x5_1 = some r) ∧ Aside0 (kq ≤ k) ∧ Aside0 (Kd.R k53 53 w' w.heap.size (fun k_ => some k_ ≠ (v265 : Value).ownBlock) v3 x3_1) ∧ Aside0 (Kd.R k53 53 w' w.heap.size (fun k_ => some k_ ≠ (v3 : Value).ownBlock) v265 t264) ∧ Aside0 (Below w.heap.size w w'))
 case atStart => exact ⟨(([] : List (S53))), (0), (by first | rfl | (simp; done) | (simp [*]; done)), H', ⟨Nat.le_refl _⟩, ⟨by first | exact Kd.R_nil _ _ _ _ _ | exact Kd.N_nil _ _ _ _ _ | exact Kd.V_nil _ _ _ _ _ | exact Kd.Q_nil _ _ _ _ _ | exact Kd.S_nil _ _ _ _ _⟩, ⟨by (with_reducible repeat (first | apply Kd.R_alloc | apply Kd.R_drewN | apply Kd.R_drew)); exact Kd.R_mono HO266.out (fun _ hk => (by simp [Value.ownBlock]))⟩, ⟨by repeat (first | (with_reducible first | exact HB.out | apply below_alloc | apply pw_below_drewN | apply below_drew1) | exact HB.out)⟩⟩
 case round =>
  clear H'
  try clear p2
  try clear c3
  obtain ⟨x3_1, x5_1, rfl, HA, HK1, HO_3, HO_4, HB⟩ := hrel
  cases gk with
  | zero => exact absurd HA.out (by simp [redpencilref14_Visible.l0])
  | succ k1 =>
   have H := HA.out
   clear HA
   simp only [redpencilref14_Visible.l0] at H
   by_cases c4 : x5_1 < (t264.length : Int)
   ·
    rw [if_pos c4] at H
    have c4b0 : decide (x5_1 < (t264.length : Int)) = true := decide_eq_true c4
    clear c4
    by_cases c5 : 0 ≤ x5_1
    ·
     rw [if_pos c5] at H
     have c5b0 : decide (0 ≤ x5_1) = true := decide_eq_true c5
     clear c5
     by_cases c6 : ((rd_T53 t264 x5_1).f3) = 0
     ·
      rw [if_pos c6] at H
      have c6b0 : (((rd_T53 t264 x5_1).f3) == 0) = true := beq_iff_eq.mpr c6
      have c6b1 : (((rd_T53 t264 x5_1).f3) != 0) = false := bne_eq_false_iff_eq.mpr c6
      clear c6
      have H' := Aside0.mk H
      clear H
      obtain ⟨Ao7, co7, eo7⟩ := Kd.R_slice HO_4.out
      subst eo7
      have p267 : 0 ≤ (x5_1 : Int) := of_decide_eq_true (by first | (with_reducible assumption) | assumption)
      have q267 : x5_1 < (t264.length : Int) := of_decide_eq_true (by first | (with_reducible assumption) | assumption)
      obtain ⟨ad267, e267, hx267_0, hx267_1, hx267_2, hx267_3, hx267_4, hx267_5⟩ := at_T53 (Kd.R_reads' HO_4.out).2.2 x5_1 p267 q267
      cases e267
      replace p267 := eq_true p267
      replace q267 := eq_true q267
      go_wp2
      go_roundg k1
      case measure => have := HK1.out; omega
      case rel => exact ⟨(x3_1), (wrap64 (x5_1 + 1)), (by first | rfl | (simp; done) | (simp [*]; done)), H', ⟨by have := HK1.out; omega⟩, ⟨by (with_reducible repeat (first | apply Kd.R_alloc | apply Kd.R_drewN | apply Kd.R_drew)); exact HO_3.out⟩, ⟨by (with_reducible repeat (first | apply Kd.R_alloc | apply Kd.R_drewN | apply Kd.R_drew)); exact HO_4.out⟩, ⟨by repeat (first | (with_reducible first | exact HB.out | apply below_alloc | apply pw_below_drewN | apply below_drew1) | exact HB.out)⟩⟩
     ·
      rw [if_neg c6] at H
      have c6b0 : (((rd_T53 t264 x5_1).f3) == 0) = false := beq_eq_false_iff_ne.mpr c6
      have c6b1 : (((rd_T53 t264 x5_1).f3) != 0) = true := bne_iff_ne.mpr c6
      by_cases c8 : x3_1.length < 2932031007402
      ·
       rw [if_pos c8] at H
       have LMc8 := Aside0.mk c8
       clear c8
       obtain ⟨y269, hy269⟩ : ∃ y_ : List (S53), y_ = (x3_1 ++ [(⟨(⟨(rd_T53 t264 x5_1).f0.f0, (rd_T53 t264 x5_1).f0.f1⟩ : S25), (⟨(rd_T53 t264 x5_1).f1.f0, (rd_T53 t264 x5_1).f1.f1⟩ : S25), (rd_T53 t264 x5_1).f2, (rd_T53 t264 x5_1).f3⟩ : S53)]) := ⟨_, rfl⟩
       replace H : (redpencilref14_Visible.l0 k1 y269 t264 (wrap64 (x5_1 + 1))) = some r := by first | (rw [hy269]; with_reducible exact H) | (have H2_ := (Option.bind_some _ _).symm.trans H; rw [hy269]; with_reducible exact H2_) | (have H2_ := (Option.bind_some _ _).symm.trans H; with_reducible exact H2_) | with_reducible exact H | (rw [hy269]; exact H) | exact H
       have Ny269 := Aside0.mk hy269
       clear hy269
       have H' := Aside0.mk H
       clear H
       obtain ⟨Ao9, co9, eo9⟩ := Kd.R_slice HO_4.out
       subst eo9
       have p267 : 0 ≤ (x5_1 : Int) := of_decide_eq_true (by first | (with_reducible assumption) | assumption)
       have q267 : x5_1 < (t264.length : Int) := of_decide_eq_true (by first | (with_reducible assumption) | assumption)
       obtain ⟨ad267, e267, hx267_0, hx267_1, hx267_2, hx267_3, hx267_4, hx267_5⟩ := at_T53 (Kd.R_reads' HO_4.out).2.2 x5_1 p267 q267
       cases e267
       replace p267 := eq_true p267
       replace q267 := eq_true q267
       have p268 : 0 ≤ (x5_1 : Int) := of_decide_eq_true (by first | (with_reducible assumption) | assumption)
       have q268 : x5_1 < (t264.length : Int) := of_decide_eq_true (by first | (with_reducible assumption) | assumption)
       obtain ⟨ad268, e268, hx268_0, hx268_1, hx268_2, hx268_3, hx268_4, hx268_5⟩ := at_T53 (Kd.R_reads' HO_4.out).2.2 x5_1 p268 q268
       obtain rfl : ad267 = ad268 := (by injection e268)
       replace p268 := eq_true p268
       replace q268 := eq_true q268
       go_wp2_with (first | ((with_reducible refine gate_builtin (b := .append) (xs := #[.tmp 20, .tmp 25]) rfl ?_); at_builtin; refine Kd.R_append k53 (w0 := w) w.heap.size rfl (.tmp 20) (.tmp 25) 23 53 (.agg #[(.int .i64 0), (.int .i64 0), (.int .i64 0), (.int .i64 0), (.int .i64 0), (.int .i32 0)]) 48 rfl Tryz.underlying23 info53 rfl (by decide) (by omega) u3 x3_1 (⟨(⟨(rd_T53 t264 x5_1).f0.f0, (rd_T53 t264 x5_1).f0.f1⟩ : S25), (⟨(rd_T53 t264 x5_1).f1.f0, (rd_T53 t264 x5_1).f1.f1⟩ : S25), (rd_T53 t264 x5_1).f2, (rd_T53 t264 x5_1).f3⟩ : S53) [.int .i64 ((rd_T53 t264 x5_1).f0.f0), .int .i64 ((rd_T53 t264 x5_1).f0.f1), .int .i64 ((rd_T53 t264 x5_1).f1.f0), .int .i64 ((rd_T53 t264 x5_1).f1.f1), .int .i64 ((rd_T53 t264 x5_1).f2), .int .i32 ((rd_T53 t264 x5_1).f3)] (fun k_ => some k_ ≠ (.slice (some ad267) t264.length co9 : Value).ownBlock) (fun _ => False) rfl rfl ?aP (fun _ hk => hk.elim) ?aF ?aO ?aB ?aS ?aL ?_; (case aP => exact k53_mkM _ _ _ (⟨(⟨(rd_T53 t264 x5_1).f0.f0, (rd_T53 t264 x5_1).f0.f1⟩ : S25), (⟨(rd_T53 t264 x5_1).f1.f0, (rd_T53 t264 x5_1).f1.f1⟩ : S25), (rd_T53 t264 x5_1).f2, (rd_T53 t264 x5_1).f3⟩ : S53)); (case aB => exact (by repeat (first | (with_reducible first | exact HB.out | apply below_alloc | apply pw_below_drewN | apply below_drew1) | exact HB.out))); (case aF => exact (fun k_ hk => Kd.fresh' (Kd.R_lt (by (with_reducible repeat (first | apply Kd.R_alloc | apply Kd.R_drewN | apply Kd.R_drew)); exact HO_4.out)) k_ hk)); (case aO => exact (by (with_reducible repeat (first | apply Kd.R_alloc | apply Kd.R_drewN | apply Kd.R_drew)); exact HO_3.out)); (case aS => exact (below_size (by repeat (first | (with_reducible first | exact HB.out | apply below_alloc | apply pw_below_drewN | apply below_drew1) | exact HB.out)))); (case aL => have := LMc8.out; omega); intro v270 w10 ho hb hg hat; rw [← Ny269.out] at ho; have n0_ := Aside0.mk (Kd.R_after (ok := (fun _ => True)) (by (with_reducible repeat (first | apply Kd.R_alloc | apply Kd.R_drewN | apply Kd.R_drew)); exact Kd.R_mono HO_4.out (fun _ hk => ⟨trivial, hk⟩)) hg hat); have n1_ := Aside0.mk (hb); have n2_ := Aside0.mk (ho); clear HO_4; clear HB; clear HO_3; have HO_4 := n0_; have HB := n1_; have HO271 := n2_; clear n0_ n1_ n2_; clear ho hb hg hat))
       go_roundg k1
       case measure => have := HK1.out; omega
       case rel => exact ⟨(y269), (wrap64 (x5_1 + 1)), (by first | rfl | (simp; done) | (simp [*]; done)), H', ⟨by have := HK1.out; omega⟩, ⟨by (with_reducible repeat (first | apply Kd.R_alloc | apply Kd.R_drewN | apply Kd.R_drew)); exact HO271.out⟩, ⟨by (with_reducible repeat (first | apply Kd.R_alloc | apply Kd.R_drewN | apply Kd.R_drew)); exact Kd.R_mono HO_4.out (fun _ hk => hk.2)⟩, ⟨by repeat (first | (with_reducible first | exact HB.out | apply below_alloc | apply pw_below_drewN | apply below_drew1) | exact HB.out)⟩⟩
      ·
       rw [if_neg c8] at H
       exact absurd H (by simp)
    ·
     rw [if_neg c5] at H
     exact absurd H (by simp)
   ·
    rw [if_neg c4] at H
    have c4b0 : decide (x5_1 < (t264.length : Int)) = false := decide_eq_false c4
    clear c4
    obtain rfl := Option.some.inj H
    obtain ⟨Ao11, co11, eo11⟩ := Kd.R_slice HO_4.out
    subst eo11
    go_wp2
    go_ret
    exact ⟨_, by first | rfl | (simp [errW_none, errW_some] <;> rfl) | (simp [*, errW_none, errW_some] <;> rfl), by (with_reducible repeat (first | apply Kd.R_alloc | apply Kd.R_drewN | apply Kd.R_drew)); exact Kd.R_mono HO_3.out (fun _ hk => trivial), by repeat (first | (with_reducible first | exact HB.out | apply below_alloc | apply pw_below_drewN | apply below_drew1) | exact HB.out)⟩
end Go.Proofs.YtmbndijbpgobeaaGreat.PWalk
end
section
namespace Go.Proofs.YtmbndijbpgobeaaGreat.PWalk
open Go.RowKit Go.Proofs.YtmbndijbpgobeaaGreatW.PrintWords Go.Proofs.YtmbndijbpgobeaaGreatW.PrintLast Go.Proofs.YtmbndijbpgobeaaGreatW.PrintMore
attribute [local go_sem] max2_int max_two
set_option linter.unusedVariables false
set_option linter.unusedSimpArgs false
def redpencilref15_Latest.l0 : Nat → List (S53) → Int → Int → Option (Int)
 | 0, _, _, _ => none
 | k + 1, x0, x3, x4 => if x4 < (x0.length : Int) then ((redpencilref14_Store.f x0).bind fun t248 => (if t248 = true then (if 0 ≤ x4 then (redpencilref15_Latest.l0 k x0 (mx x3 ((rd_T53 x0 x4).f2)) (wrap64 (x4 + 1))) else (none)) else (some x3))) else (some x3)
def redpencilref15_Latest.f (k : Nat) (l0 : List (S53)) : Option (Int) := redpencilref15_Latest.l0 k l0 0 0
set_option maxHeartbeats 8000000 in
set_option maxRecDepth 100000 in
theorem redpencilref15_Latest.calls (k : Nat) (A0 : Option Addr) (c0 : Nat) (l0 : List (S53)) (r : Int) (w : World) (hr0 : Kd.C k53 w A0 l0.length l0) (hc0 : l0.length ≤ c0) (h : redpencilref15_Latest.f k l0 = some r) :
  Calls Tryz.prog 24 #[.slice A0 l0.length c0] w fun e w' => e = .returned (.int .i64 r) ∧ Below w.heap.size w w' := by
 have HR0 := Aside0.mk hr0
 have HC0 := Aside0.mk hc0
 clear hr0 hc0
 have HB := Aside0.mk (Below.refl w.heap.size w)
 have H : (redpencilref15_Latest.l0 k l0 0 0) = some r := h
 clear h
 have H' := Aside0.mk H
 clear H
 go_enter Tryz.func24, Tryz.ntmps24
 go_wp2
 go_loopg [3, 4] k (fun kq v3 v4 w' => ∃ (x3_1 : Int) (x4_1 : Int), v3 = .int .i64 x3_1 ∧ v4 = .int .i64 x4_1 ∧ Aside0 (redpencilref15_Latest.l0 kq l0 x3_1 x4_1 = some r) ∧ Aside0 (kq ≤ k) ∧ Aside0 (Below w.heap.size w w'))
 case atStart => exact ⟨(0), (0), (by first | rfl | (simp; done) | (simp [*]; done)), (by first | rfl | (simp; done) | (simp [*]; done)), H', ⟨Nat.le_refl _⟩, ⟨by repeat (first | (with_reducible first | exact HB.out | apply below_alloc | apply pw_below_drewN | apply below_drew1) | exact HB.out)⟩⟩
 case round =>
  clear H'
  obtain ⟨x3_1, x4_1, rfl, rfl, HA, HK1, HB⟩ := hrel
  cases gk with
  | zero => exact absurd HA.out (by simp [redpencilref15_Latest.l0])
  | succ k1 =>
   have H := HA.out
   clear HA
   simp only [redpencilref15_Latest.l0] at H
   by_cases c2 : x4_1 < (l0.length : Int)
   ·
    rw [if_pos c2] at H
    have c2b0 : decide (x4_1 < (l0.length : Int)) = true := decide_eq_true c2
    clear c2
    replace H := Option.bind_eq_some_iff.mp H
    obtain ⟨t248, A30, H⟩ := H
    replace H : (if t248 = true then (if 0 ≤ x4_1 then (redpencilref15_Latest.l0 k1 l0 (mx x3_1 ((rd_T53 l0 x4_1).f2)) (wrap64 (x4_1 + 1))) else (none)) else (some x3_1)) = some r := H
    have A3 := Aside0.mk A30
    clear A30
    by_cases c4 : t248 = true
    ·
     subst c4
     have H1 : (if 0 ≤ x4_1 then (redpencilref15_Latest.l0 k1 l0 (mx x3_1 ((rd_T53 l0 x4_1).f2)) (wrap64 (x4_1 + 1))) else (none)) = some r := by rw [if_pos rfl] at H; exact H
     clear H
     have H := H1
     clear H1
     by_cases c5 : 0 ≤ x4_1
     ·
      rw [if_pos c5] at H
      have c5b0 : decide (0 ≤ x4_1) = true := decide_eq_true c5
      clear c5
      obtain ⟨ji6, hji6⟩ : ∃ j_ : Int, (mx x3_1 ((rd_T53 l0 x4_1).f2)) = j_ := ⟨_, rfl⟩
      replace H : (redpencilref15_Latest.l0 k1 l0 ji6 (wrap64 (x4_1 + 1))) = some r := by first | (rw [hji6] at H; exact H) | (simp only [hji6] at H ⊢; exact H)
      (try rw [hji6] at A3)
      have hji6_ : (if x3_1 < ((rd_T53 l0 x4_1).f2) then ((rd_T53 l0 x4_1).f2) else x3_1) = ji6 := hji6
      have H' := Aside0.mk H
      clear H
      go_wp2_with (first | (go_at_call 26; (with_reducible refine (redpencilref14_Store.calls _ _ l0 true _ ?side1 ?side2 A3.out).mono ?_); (case side1 => repeat (first | exact (Kd.C_below HR0.out HB.out) | (with_reducible refine Kd.C_alloc ?_ _) | (with_reducible refine Kd.C_drewN ?_ _) | (with_reducible refine Kd.C_drew ?_))); (case side2 => exact HC0.out); rintro e w7 ⟨rfl, hb⟩; have n0_ := Aside0.mk (below_step (by repeat (first | (with_reducible first | exact HB.out | apply below_alloc | apply pw_below_drewN | apply below_drew1) | exact HB.out)) hb); clear HB; have HB := n0_; clear n0_; (try clear hb); (try clear hb2); (try clear hk); (try clear hi); have p249 : 0 ≤ (x4_1 : Int) := of_decide_eq_true (by first | (with_reducible assumption) | assumption); have q249 : x4_1 < (l0.length : Int) := of_decide_eq_true (by first | (with_reducible assumption) | assumption); obtain ⟨ad249, e249, hx249_0, hx249_1, hx249_2, hx249_3, hx249_4, hx249_5⟩ := at_T53 HR0.out x4_1 p249 q249; cases e249; replace hx249_0 := (HB.out.cell (World.block_lt_of_cell? w _ hx249_0)).trans hx249_0; replace hx249_1 := (HB.out.cell (World.block_lt_of_cell? w _ hx249_1)).trans hx249_1; replace hx249_2 := (HB.out.cell (World.block_lt_of_cell? w _ hx249_2)).trans hx249_2; replace hx249_3 := (HB.out.cell (World.block_lt_of_cell? w _ hx249_3)).trans hx249_3; replace hx249_4 := (HB.out.cell (World.block_lt_of_cell? w _ hx249_4)).trans hx249_4; replace hx249_5 := (HB.out.cell (World.block_lt_of_cell? w _ hx249_5)).trans hx249_5; replace p249 := eq_true p249; replace q249 := eq_true q249))
      go_roundg k1
      case measure => have := HK1.out; omega
      case rel => exact ⟨(ji6), (wrap64 (x4_1 + 1)), (by first | rfl | (simp; done) | (simp only [← hji6] <;> (first | rfl | simp)) | (simp [*]; done)), (by first | rfl | (simp; done) | (simp [*]; done)), H', ⟨by have := HK1.out; omega⟩, ⟨by repeat (first | (with_reducible first | exact HB.out | apply below_alloc | apply pw_below_drewN | apply below_drew1) | exact HB.out)⟩⟩
     ·
      rw [if_neg c5] at H
      exact absurd H (by simp)
    ·
     replace c4 := Bool.eq_false_iff.mpr c4
     subst c4
     have H1 : (some x3_1) = some r := by rw [if_neg (show ¬ (false = true) by decide)] at H; exact H
     clear H
     have H := H1
     clear H1
     obtain rfl := Option.some.inj H
     go_wp2_with (first | (go_at_call 26; (with_reducible refine (redpencilref14_Store.calls _ _ l0 false _ ?side1 ?side2 A3.out).mono ?_); (case side1 => repeat (first | exact (Kd.C_below HR0.out HB.out) | (with_reducible refine Kd.C_alloc ?_ _) | (with_reducible refine Kd.C_drewN ?_ _) | (with_reducible refine Kd.C_drew ?_))); (case side2 => exact HC0.out); rintro e w8 ⟨rfl, hb⟩; have n0_ := Aside0.mk (below_step (by repeat (first | (with_reducible first | exact HB.out | apply below_alloc | apply pw_below_drewN | apply below_drew1) | exact HB.out)) hb); clear HB; have HB := n0_; clear n0_; (try clear hb); (try clear hb2); (try clear hk); (try clear hi)))
     go_ret
     exact ⟨by first | rfl | (simp [errW_none, errW_some] <;> rfl) | (simp [*, errW_none, errW_some] <;> rfl), by repeat (first | (with_reducible first | exact HB.out | apply below_alloc | apply pw_below_drewN | apply below_drew1) | exact HB.out)⟩
   ·
    rw [if_neg c2] at H
    have c2b0 : decide (x4_1 < (l0.length : Int)) = false := decide_eq_false c2
    clear c2
    obtain rfl := Option.some.inj H
    go_wp2
    go_ret
    exact ⟨by first | rfl | (simp [errW_none, errW_some] <;> rfl) | (simp [*, errW_none, errW_some] <;> rfl), by repeat (first | (with_reducible first | exact HB.out | apply below_alloc | apply pw_below_drewN | apply below_drew1) | exact HB.out)⟩
end Go.Proofs.YtmbndijbpgobeaaGreat.PWalk
end
section
namespace Go.Proofs.YtmbndijbpgobeaaGreat.PWalk
end Go.Proofs.YtmbndijbpgobeaaGreat.PWalk
end
section
namespace Go.Proofs.YtmbndijbpgobeaaGreat.PWalk
end Go.Proofs.YtmbndijbpgobeaaGreat.PWalk
end
section
namespace Go.Proofs.YtmbndijbpgobeaaGreat.PWalk
open Go.RowKit Go.Proofs.YtmbndijbpgobeaaGreatW.PrintWords Go.Proofs.YtmbndijbpgobeaaGreatW.PrintLast Go.Proofs.YtmbndijbpgobeaaGreatW.PrintMore
set_option linter.unusedVariables false
set_option linter.unusedSimpArgs false
open Go.Shelf
attribute [local go_sem] Oper.semAt_some
theorem jlast_from (l : List Node) (hl : l.length ≤ 400000) (hs : storeOk l = true) : ∀ (q k i : Nat) (t : Int), i + q = l.length → q < k → redpencilref15_Latest.l0 k l t (i : Int) = some ((l.drop i).foldl (fun t x => mx t x.f2) t) := by
 intro q
 induction q with
 | zero =>
  intro k i t hi hk
  obtain ⟨k, rfl⟩ : ∃ m, k = m + 1 := ⟨k - 1, by omega⟩
  simp only [redpencilref15_Latest.l0]
  rw [if_neg (by omega), List.drop_of_length_le (by omega)]
  rfl
 | succ q ih =>
  intro k i t hi hk
  obtain ⟨k, rfl⟩ : ∃ m, k = m + 1 := ⟨k - 1, by omega⟩
  have hlt : i < l.length := by omega
  simp only [redpencilref15_Latest.l0, redpencilref14_Store.f]
  rw [if_pos (by omega), if_pos hl, Option.bind_some, if_pos hs, if_pos (by omega), rdN hlt, wrap_succ hlt (by omega), List.drop_eq_getElem_cons hlt, List.foldl_cons]
  exact ih k (i + 1) _ (by omega) (by omega)
theorem jlatest_is {l : List Node} (hl : l.length ≤ 400000) {k : Nat} (hk : l.length < k) : redpencilref15_Latest.f k l = some (if storeOk l = true then lastOf l else 0) := by
 unfold redpencilref15_Latest.f
 by_cases h : storeOk l = true
 ·
  rw [if_pos h]
  exact jlast_from l hl h l.length k 0 0 (by omega) hk
 ·
  rw [if_neg h]
  obtain ⟨k, rfl⟩ : ∃ m, k = m + 1 := ⟨k - 1, by omega⟩
  simp only [redpencilref15_Latest.l0, redpencilref14_Store.f]
  by_cases h0 : (0 : Int) < (l.length : Int)
  ·
   rw [if_pos h0, if_pos hl, Option.bind_some, if_neg h]
  ·
   rw [if_neg h0]
theorem jsame_from (l : List Node) (hl : l.length ≤ 1000000) : ∀ (q k i : Nat), i + q = l.length → q < k → redpencilref14_Same.l0 k l l (i : Int) = some true := by
 intro q
 induction q with
 | zero =>
  intro k i hi hk
  obtain ⟨k, rfl⟩ : ∃ m, k = m + 1 := ⟨k - 1, by omega⟩
  simp only [redpencilref14_Same.l0]
  rw [if_neg (by omega)]
 | succ q ih =>
  intro k i hi hk
  obtain ⟨k, rfl⟩ : ∃ m, k = m + 1 := ⟨k - 1, by omega⟩
  have hlt : i < l.length := by omega
  simp only [redpencilref14_Same.l0]
  rw [if_pos (by omega), if_pos (by omega), if_pos (by omega), if_neg (by simp), wrap_succ hlt hl]
  exact ih k (i + 1) (by omega) (by omega)
theorem jsame_is (l : List Node) (hl : l.length ≤ 1000000) {k : Nat} (hk : l.length < k) : redpencilref14_Same.f k l l = some true := by
 unfold redpencilref14_Same.f
 rw [if_pos rfl]
 exact jsame_from l hl l.length k 0 (by omega) hk
theorem jvis_from (l : List Node) (hl : l.length ≤ 1000000) : ∀ (q k i : Nat), i + q = l.length → q < k → redpencilref14_Visible.l0 k (aliveOf (l.take i)) l (i : Int) = some (aliveOf l) := by
 intro q
 induction q with
 | zero =>
  intro k i hi hk
  obtain ⟨k, rfl⟩ : ∃ m, k = m + 1 := ⟨k - 1, by omega⟩
  simp only [redpencilref14_Visible.l0]
  rw [if_neg (by omega), show i = l.length by omega, List.take_length]
 | succ q ih =>
  intro k i hi hk
  obtain ⟨k, rfl⟩ : ∃ m, k = m + 1 := ⟨k - 1, by omega⟩
  have hlt : i < l.length := by omega
  simp only [redpencilref14_Visible.l0]
  rw [if_pos (by omega), if_pos (by omega), rdN hlt, wrap_succ hlt hl]
  have hs : aliveOf (l.take (i + 1)) = aliveOf (l.take i) ++ aliveOf [l[i]] := by
   unfold aliveOf
   rw [List.take_succ_eq_append_getElem hlt, List.filter_append]
  have := ih k (i + 1) (by omega) (by omega)
  rw [hs] at this
  by_cases h : l[i].f3 = 0
  ·
   rw [if_pos h]
   rw [show aliveOf [l[i]] = [] by unfold aliveOf; simp [h], List.append_nil] at this
   exact this
  ·
   rw [if_neg h, if_pos (by have := aliveOf_le (l.take i); rw [List.length_take] at this; omega)]
   rw [show aliveOf [l[i]] = [l[i]] by unfold aliveOf; simp [h]] at this
   exact this
theorem jvis_is {l : List Node} (hl : l.length ≤ 400000) (hs : storeOk l = true) {k : Nat} (hk : l.length < k) : redpencilref14_Visible.f k l = some (visOf l) := by
 have := ord_len hs
 unfold redpencilref14_Visible.f redpencilref14_Order.f
 rw [if_pos ⟨hl, hs⟩, Option.bind_some]
 exact jvis_from _ (by omega) _ k 0 (Nat.zero_add _) (by omega)
end Go.Proofs.YtmbndijbpgobeaaGreat.PWalk
end
section
namespace Go.Proofs.YtmbndijbpgobeaaGreat.PWalk
open Go.RowKit Go.Proofs.YtmbndijbpgobeaaGreatW.PrintWords Go.Proofs.YtmbndijbpgobeaaGreatW.PrintLast Go.Proofs.YtmbndijbpgobeaaGreatW.PrintMore
set_option linter.unusedVariables false
set_option linter.unusedSimpArgs false
open Go.Shelf
attribute [local go_sem] Oper.semAt_some
theorem wpList_boxRow {ops : Array Oper} {rest : List Oper} {o : Oper} {a : Act} {Q : Exit → Act → World → Prop} (hgd : o.guard = none) (s x : Operand) (ho : o.op = .store 25 s x) (hd : o.dst = none) {w : World} {g : Nat} {u : Dot}
  (hg : w.heap[g]? = some (dotC u)) (y : Dot) (hs : a.eval s = .pointer (some ⟨g, 0, none⟩)) (hx : a.eval x = vDot y)
  (hk : ∀ w', w'.heap[g]? = some (dotC y) → w.grownBy w' (some g) → wpList Tryz.prog ops Q rest a w') : wpList Tryz.prog ops Q (o :: rest) a w := by
 refine wpList_plain hgd fun K hK => ?_
 refine op_boxDot s x ho hd hg y hs hx fun w' h1 h2 => ?_
 exact hK _ _ (hk w' h1 h2)
theorem grown_cellR {V : World} {g : Nat} (j : Nat) (u : Value) : V.grownBy (V.setCell ⟨g, j, none⟩ u) (some g) :=
 ⟨rfl, rfl, rfl, by rw [World.size_setCell]; exact Nat.le_refl _, fun k hk hne => Below.heap_setCell V _ u k (fun e => hne (by rw [e]))⟩
theorem replJ_end {l : List Node} {d : Dot} {a n : Int} {rs : List Int} {r1 : List Node} {r2 c : Int} (h : replJ l d a n rs = (r1, r2)) (he : errE l d a n rs = c) (hc : c ≠ 0) : r1 = [] ∧ r2 = c := by
 rw [replJ_err he hc] at h
 cases h
 exact ⟨rfl, rfl⟩
theorem replJ_busy {l : List Node} {d : Dot} {a n : Int} {rs : List Int} {r1 : List Node} {r2 : Int} (h : replJ l d a n rs = (r1, r2)) (he : errE l d a n rs = 0) (hb : busyE l d rs.length = true) : r1 = [] ∧ r2 = 11 := by
 unfold replJ at h
 rw [if_neg (by rw [he]; decide), if_pos hb] at h
 cases h
 exact ⟨rfl, rfl⟩
theorem replJ_fin {l : List Node} {d : Dot} {a n : Int} {rs : List Int} {r1 : List Node} {r2 : Int} (h : replJ l d a n rs = (r1, r2)) (he : errE l d a n rs = 0) (hb : busyE l d rs.length = false) : r1 = joinJ (joinJ [] ((cutV l a n).map deadN)) (chainE d (leftE l a) (lastOf l) rs) ∧ r2 = 0 := by
 unfold replJ at h
 rw [if_neg (by rw [he]; decide), if_neg (by rw [hb]; decide)] at h
 cases h
 exact ⟨rfl, rfl⟩
theorem fold_le {M : Int} : ∀ (l : List Node) (t : Int), t ≤ M → (∀ x ∈ l, x.f2 ≤ M) → l.foldl (fun t x => mx t x.f2) t ≤ M
 | [], _, h, _ => h
 | x :: l, t, h, hx => by
  rw [List.foldl_cons]
  refine fold_le l _ ?_ fun y hy => hx y (List.mem_cons_of_mem _ hy)
  have h2 := hx x (List.mem_cons_self ..)
  unfold mx
  split <;> omega
theorem last_le {l : List Node} (h : storeOk l = true) : 0 ≤ lastOf l ∧ lastOf l ≤ 4611686018427387904 := by
 refine ⟨last_ge l 0, fold_le l 0 (by omega) fun x hx => ?_⟩
 unfold storeOk at h
 rw [Bool.and_eq_true, List.all_eq_true] at h
 have := of_decide_eq_true (h.1 x hx)
 exact this.2.2.2.2.1
theorem gone_q {v : List Node} {a q : Nat} {x : Node} (h : v[q]? = some x) (ha : a ≤ q) : joinJ (joinJ [] (((v.take q).drop a).map deadN)) [deadN x] = joinJ [] (((v.take (q + 1)).drop a).map deadN) := by
 obtain ⟨k, rfl⟩ : ∃ k, q = a + k := ⟨q - a, by omega⟩
 exact gone_succ h
theorem jfind_in {l : List Node} {d : Dot} {j : Nat} (h : l.findIdx? (dotIs d) = some j) : d ∈ l.map (·.f0) := by
 obtain ⟨hj, h1, _⟩ := List.findIdx?_eq_some_iff_getElem.1 h
 refine List.mem_map.2 ⟨l[j], List.getElem_mem hj, ?_⟩
 unfold dotIs at h1
 rw [Bool.and_eq_true, beq_iff_eq, beq_iff_eq] at h1
 exact Dot.ext_iff'.2 h1
theorem jfind_out {l : List Node} {d : Dot} (h : l.findIdx? (dotIs d) = none) : d ∉ l.map (·.f0) := by
 intro hd
 obtain ⟨x, hx, rfl⟩ := List.mem_map.1 hd
 have := List.findIdx?_eq_none_iff.1 h x hx
 rw [jis_self] at this
 cases this
def redpencilref15_Replace.f (l0 : List Node) (a1_0 a1_1 a2 a3 : Int) (l4 : List Int) : Option (List Node × Int) := if l0.length ≤ 100000 ∧ l4.length ≤ 20000 then some (replJ l0 ⟨a1_0, a1_1⟩ a2 a3 l4) else none
def rp28Inv (W0 : World) (A0 : Option Addr) (al : Addr) (n c0 k c4 q3 gd gp : Nat) (late r : Int) (d p : Dot) (z1 z2 z3 z5 z7 z8 z9 z10 z11 z12 z13 z14 z15 z16 z19 z20 z21 z22 z23 z24 z25 z26 z27 z28 z29 z30 z31 z32 z33 z34 z35 z36 z37 z38 z39 z40 z41 z42 z43 z44 z45 z46 z47 z48 z49 z50 z51 z52 z53 z54 z55 z56 z57 z58 z59 z60 z61 z62 z63 z64 z65 z66 z67 z68 z69 z70 z71 z72 z73 z74 z75 z76 z77 z78 z79 z80 z81 z82 z83 z84 z85 z86 z87 z88 z89 z90 z91 z92 z93 z94 z95 z96 z97 z98 z99 z100 z101 z102 z103 z104 z105 z106 z107 z108 z109 z110 z111 z112 z113 z114 z115 z116 z117 z118 z119 z120 z121 z122 z123 z124 z125 z126 z127 z128 z129 z130 z131 z132 z133 z134 z135 z136 z137 z138 z139 z140 z141 z142 z143 z144 : Value) (L : Array Bool) (ac : Act) (V : World) : Prop := ∃ (l0 l1 l2 l3 l4 l5 l6 l7 l8 l9 l10 l11 l12 l13 l14 l15 l16 l17 l18 l19 : Bool) (g : Nat), L = #[l0, l1, l2, l3, l4, l5, l6, l7, l8, l9, l10, l11, l12, l13, l14, l15, l16, l17, l18, l19] ∧ ac = { tmps := #[.slice A0 n c0, z1, z2, z3, .slice (some al) k c4, z5, .pointer (some ⟨gd, 0, none⟩), z7, z8, z9, z10, z11, z12, z13, z14, z15, z16, .pointer (some ⟨gp, 0, none⟩), .int .i64 (q3 : Int), selv l18 (.pointer (some ⟨g, 0, none⟩)) (z19), z20, z21, z22, z23, z24, z25, z26, z27, z28, z29, z30, z31, z32, z33, z34, z35, z36, z37, z38, z39, z40, z41, z42, z43, z44, z45, z46, z47, z48, z49, z50, z51, z52, z53, z54, z55, z56, z57, z58, z59, z60, z61, z62, z63, z64, z65, z66, z67, z68, z69, z70, z71, z72, z73, z74, z75, z76, z77, z78, z79, z80, z81, z82, z83, z84, z85, z86, z87, z88, z89, z90, z91, z92, z93, z94, z95, z96, z97, z98, z99, z100, z101, z102, z103, z104, z105, z106, z107, z108, z109, z110, z111, z112, z113, z114, selv l0 (.pointer (some ⟨gd, 0, none⟩)) (z115), selv l1 (.int .i64 d.f0) (z116), selv l2 (.pointer (some ⟨gd, 1, none⟩)) (z117), selv l3 (.int .i64 d.f1) (z118), selv l4 (.int .i64 (q3 : Int)) (z119), selv l5 (.int .i64 (d.f1 + (q3 : Int))) (z120), selv l6 (vDot ⟨d.f0, d.f1 + (q3 : Int)⟩) (z121), selv l7 (vDot p) (z122), selv l8 (.slice A0 n c0) (z123), selv l9 (.int .i64 late) (z124), selv l10 (.int .i64 (late + 1)) (z125), selv l11 (.int .i64 (q3 : Int)) (z126), selv l12 (.int .i64 (late + 1 + (q3 : Int))) (z127), selv l13 (.slice (some al) k c4) (z128), selv l14 (.int .i64 (q3 : Int)) (z129), selv l15 (.pointer (some (al.add q3))) (z130), selv l16 (.int .i32 r) (z131), selv l17 (vNode ⟨⟨d.f0, d.f1 + (q3 : Int)⟩, p, late + 1 + (q3 : Int), r⟩) (z132), z133, z134, z135, z136, z137, z138, z139, z140, z141, z142, z143, z144], defers := [] } ∧ Aside0 (JN W0 ⟨⟨d.f0, d.f1 + (q3 : Int)⟩, p, late + 1 + (q3 : Int), r⟩ l18 l19 g V)
set_option maxHeartbeats 8000000 in
set_option maxRecDepth 100000 in
theorem redpencilref15_Replace.calls (A0 : Option Addr) (c0 : Nat) (l0 : List Node) (a1_0 a1_1 a2 a3 : Int) (A4 : Option Addr) (c4 : Nat) (l4 : List Int) (r1 : List Node) (r2 : Int) (w : World) (hr0 : Kd.C k53 w A0 l0.length l0) (hc0 : l0.length ≤ c0) (hr4 : Kd.C (Kd.int .i32) w A4 l4.length l4) (hc4 : l4.length ≤ c4) (h : redpencilref15_Replace.f l0 a1_0 a1_1 a2 a3 l4 = some (r1, r2)) :
  Calls Tryz.prog 12 #[.slice A0 l0.length c0, .agg #[.int .i64 a1_0, .int .i64 a1_1], .int .i64 a2, .int .i64 a3, .slice A4 l4.length c4] w fun e w' => ∃ v0_ : Value, e = .returned (.tuple #[v0_, .int .i64 r2]) ∧ Kd.R k53 53 w' w.heap.size (fun _ => True) v0_ r1 ∧ Below w.heap.size w w' := by
 unfold redpencilref15_Replace.f at h
 by_cases hl : l0.length ≤ 100000 ∧ l4.length ≤ 20000
 rotate_left
 ·
  rw [if_neg hl] at h; cases h
 rw [if_pos hl] at h
 obtain ⟨d, hd⟩ : ∃ d : Dot, d = ⟨a1_0, a1_1⟩ := ⟨_, rfl⟩
 rw [← hd] at h
 rw [show a1_0 = d.f0 by rw [hd], show a1_1 = d.f1 by rw [hd]]
 clear hd
 have HRES := Aside0.mk (Option.some.inj h)
 obtain ⟨n, Hn⟩ : ∃ n, Aside0 (l0.length = n) := ⟨_, ⟨rfl⟩⟩
 obtain ⟨m, Hm⟩ : ∃ m, Aside0 (l4.length = m) := ⟨_, ⟨rfl⟩⟩
 obtain ⟨b, Hb⟩ : ∃ b, Aside0 (wellB l0 = b) := ⟨_, ⟨rfl⟩⟩
 obtain ⟨dv, Hdv⟩ : ∃ b, Aside0 (dotOk d = b) := ⟨_, ⟨rfl⟩⟩
 obtain ⟨late, Hla⟩ : ∃ t, Aside0 (lastOf l0 = t) := ⟨_, ⟨rfl⟩⟩
 have HL : Aside0 (n ≤ 100000 ∧ m ≤ 20000) := ⟨by rw [← Hn.out, ← Hm.out]; exact hl⟩
 have HWELL : Aside0 (∀ W, Below w.heap.size w W → Calls Tryz.prog 35 #[.slice A0 n c0] W fun e w' => e = .returned (.bool b) ∧ Below W.heap.size W w') := ⟨fun W hb => by
  rw [← Hn.out]
  exact redpencilref14_Well.calls (l0.length + l0.length + 2) A0 c0 l0 b W (Kd.C_below hr0 hb) hc0 (by rw [jwell_is (by omega) (by omega), Hb.out])⟩
 have HVIS : Aside0 (storeOk l0 = true → ∀ W, Below w.heap.size w W → Calls Tryz.prog 38 #[.slice A0 n c0] W fun e w' => ∃ v0_ : Value, e = .returned v0_ ∧ RN w' W.heap.size v0_ (visOf l0) ∧ Below W.heap.size W w') := ⟨fun hs W hb => by
  rw [← Hn.out]
  exact redpencilref14_Visible.calls (l0.length + 1) A0 c0 l0 (visOf l0) W (Kd.C_below hr0 hb) hc0 (jvis_is (by omega) hs (by omega))⟩
 have HLATE : Aside0 (storeOk l0 = true → ∀ W, Below w.heap.size w W → Calls Tryz.prog 24 #[.slice A0 n c0] W fun e w' => e = .returned (.int .i64 late) ∧ Below W.heap.size W w') := ⟨fun hs W hb => by
  rw [← Hn.out]
  exact redpencilref15_Latest.calls (l0.length + 1) A0 c0 l0 late W (Kd.C_below hr0 hb) hc0 (by rw [jlatest_is (by omega) (by omega), if_pos hs, Hla.out])⟩
 have HFIND : Aside0 (∀ (e : Dot) W, Below w.heap.size w W → Calls Tryz.prog 39 #[.slice A0 n c0, .agg #[.int .i64 e.f0, .int .i64 e.f1]] W fun r w' => r = .returned (.int .i64 (idxFrom (dotIs e) l0)) ∧ Below W.heap.size W w') := ⟨fun e W hb => by
  rw [← Hn.out]
  exact redpencilref14_Find.calls (l0.length + 1) A0 c0 l0 e.f0 e.f1 _ W (Kd.C_below hr0 hb) hc0 (jfind_is l0 (by omega) e (by omega))⟩
 have HDC := Aside0.mk (blk_new w (dotC d))
 have HB := Aside0.mk (below_alloc (Below.refl _ w) (dotC d))
 have HR4 := Aside0.mk hr4
 rw [Hm.out] at HR4
 rw [Hn.out, Hm.out]
 have hu := Tryz.underlying53
 have hu2 := Tryz.underlying25
 clear h hl hr0 hc0 hr4 hc4
 go_enter Tryz.func12, Tryz.ntmps12
 go_wp2_with fail
 refine (HWELL.out _ HB.out).mono ?_
 rintro e V0 ⟨rfl, hb⟩
 have HDC := Aside0.mk (blk_keep HDC.out hb)
 have HB := Aside0.mk (below_more HB.out hb)
 clear hb HWELL
 cases b with
 | false =>
  have HEND := Aside0.mk (replJ_end HRES.out (err2 (.inl Hb.out)) (by decide))
  go_wp2
  go_ret2
  rw [HEND.out.1, HEND.out.2]
  exact ⟨_, rfl, Kd.R_nil _ _ _ _ _, HB.out⟩
 | true =>
 obtain ⟨x0, x1⟩ := dot_cells HDC.out
 go_wp2_with fail
 clear x0 x1
 refine (redpencilref14_IsDot.calls _ _ dv _ (by rw [jdot_is, Hdv.out])).mono ?_
 rintro e V1 ⟨rfl, hb⟩
 have HDC := Aside0.mk (blk_keep HDC.out hb)
 have HB := Aside0.mk (below_more HB.out hb)
 clear hb
 cases dv with
 | false =>
  have HEND := Aside0.mk (replJ_end HRES.out (err2 (.inr Hdv.out)) (by decide))
  go_wp2
  go_ret2
  rw [HEND.out.1, HEND.out.2]
  exact ⟨_, rfl, Kd.R_nil _ _ _ _ _, HB.out⟩
 | true =>
 have HS : Aside0 (storeOk l0 = true) := ⟨well_store (List.isEmpty_iff.1 Hb.out)⟩
 go_wp2_with fail
 refine (HVIS.out HS.out _ HB.out).mono ?_
 rintro e V2 ⟨vv, rfl, hrv, hb⟩
 obtain ⟨Av, cv, rfl⟩ := RN.slice hrv
 obtain ⟨v, Hv⟩ : ∃ v, Aside0 (visOf l0 = v) := ⟨_, ⟨rfl⟩⟩
 rw [Hv.out] at hrv ⊢
 obtain ⟨nv, Hnv⟩ : ∃ k, Aside0 (v.length = k) := ⟨_, ⟨rfl⟩⟩
 rw [Hnv.out] at hrv ⊢
 have HV := Aside0.mk (RN.C hrv).2.2
 have HVC := Aside0.mk (RN.C hrv).2.1
 have HDC := Aside0.mk (blk_keep HDC.out hb)
 have HB := Aside0.mk (below_more HB.out hb)
 have hnv : nv ≤ 100000 := by have h1 := vis_len HS.out; have h2 := Hn.out; have h3 := HL.out; have h4 := Hnv.out; rw [Hv.out] at h1; omega
 clear hb hrv HVIS
 by_cases hc3 : a2 < 0 ∨ a3 < 0 ∨ a2 > (nv : Int) ∨ a3 > (nv : Int) - a2
 ·
  have h3 : spanE l0 a2 a3 = 3 := span3 Hb.out (by rw [Hv.out, Hnv.out]; exact hc3)
  have HEND := Aside0.mk (replJ_end HRES.out ((err3 Hb.out Hdv.out (by rw [h3]; decide)).trans h3) (by decide))
  clear h3
  by_cases p1 : a2 < 0
  ·
   go_wp2
   go_ret2
   rw [HEND.out.1, HEND.out.2]
   exact ⟨_, rfl, Kd.R_nil _ _ _ _ _, HB.out⟩
  ·
   by_cases p2 : a2 > (nv : Int)
   ·
    go_wp2
    go_ret2
    rw [HEND.out.1, HEND.out.2]
    exact ⟨_, rfl, Kd.R_nil _ _ _ _ _, HB.out⟩
   ·
    by_cases p3 : a3 < 0
    ·
     go_wp2
     go_ret2
     rw [HEND.out.1, HEND.out.2]
     exact ⟨_, rfl, Kd.R_nil _ _ _ _ _, HB.out⟩
    ·
     have p4 : a3 > (nv : Int) - a2 := by omega
     clear hc3
     go_wp2
     go_ret2
     rw [HEND.out.1, HEND.out.2]
     exact ⟨_, rfl, Kd.R_nil _ _ _ _ _, HB.out⟩
 have HSP : Aside0 (spanE l0 a2 a3 = 0) := ⟨span0 Hb.out (by rw [Hv.out, Hnv.out]; exact hc3)⟩
 obtain ⟨at_, rfl⟩ : ∃ q : Nat, a2 = (q : Int) := ⟨a2.toNat, by omega⟩
 obtain ⟨nn, rfl⟩ : ∃ q : Nat, a3 = (q : Int) := ⟨a3.toNat, by omega⟩
 have hcut : at_ + nn ≤ nv := by omega
 have p1 : ¬ ((at_ : Int) < 0) := by omega
 have p2 : ¬ ((at_ : Int) > (nv : Int)) := by omega
 have p3 : ¬ ((nn : Int) < 0) := by omega
 have p4 : ¬ ((nn : Int) > (nv : Int) - (at_ : Int)) := by omega
 clear hc3
 by_cases hc5 : (nn : Int) > 10000 ∨ (m : Int) > 10000
 ·
  have HEND := Aside0.mk (replJ_end HRES.out (err5 Hb.out Hdv.out HSP.out (by rw [Hm.out]; exact hc5)) (by decide))
  by_cases p5 : (m : Int) > 10000
  ·
   go_wp2
   go_ret2
   rw [HEND.out.1, HEND.out.2]
   exact ⟨_, rfl, Kd.R_nil _ _ _ _ _, HB.out⟩
  ·
   have p6 : (nn : Int) > 10000 := by omega
   clear hc5
   go_wp2
   go_ret2
   rw [HEND.out.1, HEND.out.2]
   exact ⟨_, rfl, Kd.R_nil _ _ _ _ _, HB.out⟩
 have p5 : ¬ (m : Int) > 10000 := by omega
 have p6 : ¬ (nn : Int) > 10000 := by omega
 have HP5 : Aside0 (¬ ((l4.length : Nat) : Int) > 10000) := ⟨by rw [Hm.out]; exact p5⟩
 have HP6 : Aside0 (¬ (nn : Int) > 10000) := ⟨by omega⟩
 clear hc5
 obtain ⟨gd, Hgd⟩ : ∃ g, Aside0 (w.heap.size = g) := ⟨_, ⟨rfl⟩⟩
 rw [Hgd.out] at HDC
 go_wp2_with fail
 rw [Hgd.out]
 have HLATE : Aside0 (∀ W, Below V2.heap.size V2 W → Calls Tryz.prog 24 #[.slice A0 n c0] W fun e w' => e = .returned (.int .i64 late) ∧ Below W.heap.size W w') := ⟨fun W hb => HLATE.out HS.out W (below_more HB.out hb)⟩
 have HFIND : Aside0 (∀ (e : Dot) W, Below V2.heap.size V2 W → Calls Tryz.prog 39 #[.slice A0 n c0, .agg #[.int .i64 e.f0, .int .i64 e.f1]] W fun r w' => r = .returned (.int .i64 (idxFrom (dotIs e) l0)) ∧ Below W.heap.size W w') := ⟨fun e W hb => HFIND.out e W (below_more HB.out hb)⟩
 have HR4 := Aside0.mk (Kd.C_below HR4.out HB.out)
 go_loopw [13] (fun i wr => ∃ k : Nat, i = .int .i64 k ∧ k ≤ m ∧ Aside0 (∀ (j : Nat) (r : Int), j < k → l4[j]? = some r → runeOk r = true) ∧ Aside0 (Below V2.heap.size V2 wr)) (fun i _ => m - (intOf i).toNat)
 case atStart => exact ⟨0, rfl, Nat.zero_le _, ⟨fun j r h => absurd h (Nat.not_lt_zero _)⟩, ⟨Below.refl _ _⟩⟩
 case round =>
  obtain ⟨k, rfl, hk, HOK, HVB⟩ := hrel
  by_cases hlt : k < m
  ·
   obtain ⟨r, Hr⟩ : ∃ r, Aside0 (l4[k]? = some r) := ⟨_, ⟨List.getElem?_eq_getElem (by rw [Hm.out]; exact hlt)⟩⟩
   obtain ⟨t, Ht⟩ : ∃ t, Aside0 (runeOk r = t) := ⟨_, ⟨rfl⟩⟩
   obtain ⟨al, e, x0⟩ := rune_at HR4.out HVB.out k r Hr.out
   subst e
   go_wp2_with fail
   clear x0
   refine (redpencilref14_IsRune.calls r t _ (by rw [jrune_ok, Ht.out])).mono ?_
   rintro e V4 ⟨rfl, hb⟩
   have HVB := Aside0.mk (below_more HVB.out hb.below)
   clear hb
   cases t with
   | false =>
    have HEND := Aside0.mk (replJ_end HRES.out (err13 Hb.out Hdv.out HSP.out (by have := HP6.out; omega) (by have := HP5.out; omega) (List.mem_of_getElem? Hr.out) Ht.out) (by decide))
    go_wp2
    go_ret2
    rw [HEND.out.1, HEND.out.2]
    exact ⟨_, rfl, Kd.R_nil _ _ _ _ _, below_more HB.out HVB.out⟩
   | true =>
    have HOK : Aside0 (∀ (j : Nat) (r : Int), j < k + 1 → l4[j]? = some r → runeOk r = true) := ⟨fun j r' hj hr => by
     rcases Nat.lt_succ_iff_lt_or_eq.1 hj with h | rfl
     ·
      exact HOK.out j r' h hr
     ·
      rw [Hr.out] at hr; cases hr; exact Ht.out⟩
    go_wp2
    go_roundw
    case rel => exact ⟨k + 1, by go_num, by omega, HOK, HVB⟩
    case measure => simp [intOf]; omega
  obtain rfl : k = m := by omega
  have HALL : Aside0 (∀ r ∈ l4, runeOk r = true) := ⟨fun r hr => by
   obtain ⟨j, hj⟩ := List.getElem?_of_mem hr
   exact HOK.out j r (by rw [← Hm.out]; exact (List.getElem?_eq_some_iff.1 hj).1) hj⟩
  clear HOK hlt hk
  obtain ⟨wr1, rfl⟩ : ∃ W0, W0 = wr := ⟨_, rfl⟩
  have hdf : 1 ≤ d.f1 ∧ d.f1 ≤ 4294967295 := by have := of_decide_eq_true Hdv.out; exact ⟨this.2.2.1, this.2.2.2⟩
  obtain ⟨x0, x1⟩ := dot_cells (blk_keep HDC.out HVB.out)
  by_cases hc14 : d.f1 > 4294967296 - (k : Int)
  ·
   have HEND := Aside0.mk (replJ_end HRES.out (err14 Hb.out Hdv.out HSP.out (by have := HP6.out; omega) (by have := HP5.out; omega) HALL.out (.inl (by rw [Hm.out]; exact hc14))) (by decide))
   have p7 : (k : Int) > 4294967295 - d.f1 + 1 := by omega
   clear hc14
   go_wp2
   go_ret2
   rw [HEND.out.1, HEND.out.2]
   exact ⟨_, rfl, Kd.R_nil _ _ _ _ _, below_more HB.out HVB.out⟩
  have p7 : ¬ (k : Int) > 4294967295 - d.f1 + 1 := by omega
  have HC14 := Aside0.mk hc14
  clear hc14
  go_wp2_with fail
  clear x0 x1
  refine (HLATE.out _ HVB.out).mono ?_
  rintro e V4 ⟨rfl, hb⟩
  have HVB := Aside0.mk (below_more HVB.out hb)
  clear hb
  have hla : 0 ≤ late ∧ late ≤ 4611686018427387904 := by rw [← Hla.out]; exact last_le HS.out
  have HLE : Aside0 (lateE l0 = late) := ⟨by unfold lateE; rw [if_pos HS.out, Hla.out]⟩
  by_cases hc15 : late > 4611686018427387904 - (k : Int)
  ·
   have HEND := Aside0.mk (replJ_end HRES.out (err14 Hb.out Hdv.out HSP.out (by have := HP6.out; omega) (by have := HP5.out; omega) HALL.out (.inr (by rw [Hm.out, HLE.out]; exact hc15))) (by decide))
   have p8 : (k : Int) > 4611686018427387904 - late := by omega
   clear hc15
   go_wp2
   go_ret2
   rw [HEND.out.1, HEND.out.2]
   exact ⟨_, rfl, Kd.R_nil _ _ _ _ _, below_more HB.out HVB.out⟩
  have p8 : ¬ (k : Int) > 4611686018427387904 - late := by omega
  have HERR : Aside0 (errE l0 d at_ nn l4 = 0) := ⟨err0 Hb.out Hdv.out HSP.out (by have := HP6.out; omega) (by have := HP5.out; omega) HALL.out (by rw [Hm.out]; have := HC14.out; omega) (by rw [Hm.out, HLE.out]; exact hc15)⟩
  have HD : Aside0 (0 ≤ d.f1 ∧ d.f1 + (k : Int) ≤ 4294967296) := ⟨by have := HC14.out; omega⟩
  have HLA : Aside0 (0 ≤ late ∧ late + (k : Int) ≤ 4611686018427387904) := ⟨by omega⟩
  clear hc15 HLE
  go_wp2_with fail
  clear p7 p8 hla hdf HC14 HALL HP5 HP6 HSP
  go_loopw [14, 15] (fun s i wr => ∃ (q : Nat) (Ao : Option Addr) (no co : Nat), s = .slice Ao no co ∧ i = .int .i64 q ∧ at_ ≤ q ∧ q ≤ at_ + nn ∧ no ≤ q ∧ Aside0 (RN wr V2.heap.size (.slice Ao no co) (joinJ [] (((v.take q).drop at_).map deadN))) ∧ Aside0 (Below V2.heap.size V2 wr)) (fun _ i _ => at_ + nn - (intOf i).toNat)
  case atStart =>
   refine ⟨at_, none, 0, 0, rfl, rfl, Nat.le_refl _, Nat.le_add_right _ _, Nat.zero_le _, ⟨?_⟩, HVB⟩
   rw [List.drop_eq_nil_of_le (by rw [List.length_take]; omega)]
   exact Kd.R_nil _ _ _ _ _
  case round =>
   obtain ⟨q, Ao, no, co, rfl, rfl, hq1, hq2, hno, HO, HVB⟩ := hrel
   by_cases hlt : q < at_ + nn
   ·
    obtain ⟨x, Hx⟩ : ∃ x, Aside0 (v[q]? = some x) := ⟨_, ⟨List.getElem?_eq_getElem (by rw [Hnv.out]; omega)⟩⟩
    have HST := Aside0.mk (gone_q Hx.out hq1)
    obtain ⟨o, Ho⟩ : ∃ o, Aside0 (joinJ [] (((v.take q).drop at_).map deadN) = o) := ⟨_, ⟨rfl⟩⟩
    rw [Ho.out] at HO HST
    have HOL : Aside0 (o.length = no) := ⟨(RN.C HO.out).1⟩
    obtain ⟨ad, e, y0, y1, y2, y3, y4, y5⟩ := node_at HV.out HVB.out q x Hx.out
    subst e
    have g1 : decide ((q : Int) < (at_ : Int) + (nn : Int)) = true := decide_eq_true (by omega)
    have hqv : q < nv := by omega
    go_upto_region 20 with (fail)
    have hb0 := below_alloc (Below.refl wr.heap.size wr) (boxN x)
    have HKB := Aside0.mk (blk_new wr (boxN x))
    have HGX := Aside0.mk HVB.out.size
    have HOX : Aside0 (∀ g, (Value.slice Ao no co).ownBlock = some g → g ≠ wr.heap.size) := ⟨fun g hg => Nat.ne_of_lt (RN.lt HO.out hg)⟩
    have HO := Aside0.mk (RN.below' HO.out hb0)
    have HVB := Aside0.mk (below_more HVB.out hb0)
    clear hb0 y0 y1 y2 y3 y4 y5 g1
    generalize wr.alloc (boxN x) = V5 at *
    generalize wr.heap.size = gx at *
    have c5 : V5.cell? ⟨gx, 5, none⟩ = some (.int .i32 x.f3) := (blk_cell HKB.out 5).trans rfl
    have f5 := blk_frozen HKB.out 5
    go_upto_region 21 with (fail)
    clear c5 f5
    have hg : V5.grownBy (V5.setCell ⟨gx, 5, none⟩ (.int .i32 0)) (some gx) := grown_cellR 5 _
    have HKB : Aside0 ((V5.setCell ⟨gx, 5, none⟩ (.int .i32 0)).heap[gx]? = some (boxN (deadN x))) := ⟨blk_set HKB.out 5 (.int .i32 0)⟩
    have HO2 := Aside0.mk (RN.keep HO.out (fun g hgo => hg.block g (RN.lt HO.out hgo) (fun e => HOX.out g hgo (Option.some.inj e))))
    have HVB := Aside0.mk (HVB.out.grown hg HVB.out.size (fun q e => by cases e; exact HGX.out))
    clear hg HO
    generalize V5.setCell ⟨gx, 5, none⟩ (.int .i32 0) = V6 at *
    obtain ⟨x0, x1, x2, x3, x4, x5⟩ := box_six HKB.out
    have hb0 := below_alloc (Below.refl V6.heap.size V6) (boxN (deadN x))
    have hsz := Nat.le_trans HVB.out.size hb0.size
    have hcall := redpencilref14_Join.calls Ao co o (some ⟨V6.heap.size, 0, none⟩) 1 [deadN x] (joinJ o [deadN x]) (V6.alloc (boxN (deadN x))) (by rw [HOL.out]; exact (RN.C (RN.below' HO2.out hb0)).2.2) (by rw [HOL.out]; exact (RN.C HO2.out).2.1) (boxN_C (blk_new V6 (boxN (deadN x)))) (Nat.le_refl _) (by unfold redpencilref14_Join.f; rw [if_pos (by rw [HOL.out, List.length_singleton]; omega)])
    rw [HOL.out] at hcall
    have HCALL := Aside0.mk hcall
    clear hcall
    go_wp2_with fail
    clear x0 x1 x2 x3 x4 x5
    refine HCALL.out.mono ?_
    rintro e V7 ⟨v7, rfl, hr7, hb7⟩
    obtain ⟨A7, c7, rfl⟩ := RN.slice hr7
    have HVB := Aside0.mk (below_more (below_more HVB.out hb0) hb7)
    have hle := joinJ_le [deadN x] o
    rw [HOL.out, List.length_singleton] at hle
    have HO7 := Aside0.mk (Kd.R_lower hr7 hsz)
    obtain ⟨n7, Hn7⟩ : ∃ k, Aside0 ((joinJ o [deadN x]).length = k) := ⟨_, ⟨rfl⟩⟩
    rw [Hn7.out] at HO7 hle ⊢
    rw [HST.out] at HO7
    clear hr7 hb7 hb0 hsz HCALL HKB HO2
    go_wp2
    go_roundw
    case rel => exact ⟨q + 1, A7, n7, c7, rfl, by go_num, by omega, by omega, by omega, HO7, HVB⟩
    case measure => simp [intOf]; omega
   have hqe : q = at_ + nn := by omega
   have HGO : Aside0 (joinJ [] (((v.take q).drop at_).map deadN) = joinJ [] ((cutV l0 at_ nn).map deadN)) := ⟨by
    unfold cutV
    rw [Hv.out, hqe, show ((at_ : Int) + (nn : Int)).toNat = at_ + nn by omega, Int.toNat_natCast]⟩
   obtain ⟨gone, Hgo⟩ : ∃ g, Aside0 (joinJ [] ((cutV l0 at_ nn).map deadN) = g) := ⟨_, ⟨rfl⟩⟩
   rw [HGO.out, Hgo.out] at HO
   have hno2 : no ≤ 100000 := by omega
   have g1 : decide ((q : Int) < (at_ : Int) + (nn : Int)) = false := decide_eq_false (by omega)
   obtain ⟨wr2, rfl⟩ : ∃ W0, W0 = wr := ⟨_, rfl⟩
   clear hlt hq1 hq2 hno hqe HGO
   go_upto_region 23 with (fail)
   have hb0 := below_alloc (Below.refl wr2.heap.size wr2) (dotC ⟨0, 0⟩)
   have HPZ := Aside0.mk (blk_new wr2 (dotC ⟨0, 0⟩))
   have HGP := Aside0.mk HVB.out.size
   have HOX : Aside0 (∀ g, (Value.slice Ao no co).ownBlock = some g → g ≠ wr2.heap.size) := ⟨fun g hg => Nat.ne_of_lt (RN.lt HO.out hg)⟩
   have HO := Aside0.mk (RN.below' HO.out hb0)
   have HVB := Aside0.mk (below_more HVB.out hb0)
   clear hb0 g1
   generalize wr2.alloc (dotC ⟨0, 0⟩) = V5 at *
   generalize wr2.heap.size = gp at *
   obtain ⟨p0, Hp0⟩ : ∃ p, Aside0 (leftE l0 at_ = p) := ⟨_, ⟨rfl⟩⟩
   rcases Nat.eq_zero_or_pos at_ with ha | ha
   case' inl =>
    have HP0 : Aside0 (p0 = ⟨0, 0⟩) := ⟨by rw [← Hp0.out, ha]; rfl⟩
    have HPC : Aside0 (V5.heap[gp]? = some (dotC p0)) := ⟨by rw [HP0.out]; exact HPZ.out⟩
    have hat0 : decide (0 < at_) = false := decide_eq_false (by omega)
    have hat1 : decide ((at_ : Int) > 0) = false := decide_eq_false (by omega)
    obtain ⟨V6, rfl⟩ : ∃ W0, W0 = V5 := ⟨_, rfl⟩
    clear HP0 ha
    go_upto_region 25 with (fail)
    clear hat0 hat1
   case' inr =>
    obtain ⟨j, hj⟩ : ∃ j : Nat, at_ = j + 1 := ⟨at_ - 1, by omega⟩
    obtain ⟨x, Hx⟩ : ∃ x, Aside0 (v[j]? = some x) := ⟨_, ⟨List.getElem?_eq_getElem (by rw [Hnv.out]; omega)⟩⟩
    have HP0 : Aside0 (x.f0 = p0) := ⟨by
     rw [← Hp0.out]
     unfold leftE
     rw [if_neg (by omega), Hv.out, show ((at_ : Int) - 1).toNat = j by omega, Hx.out]
     rfl⟩
    obtain ⟨ad, e, y0, y1, y2, y3, y4, y5⟩ := node_at HV.out HVB.out j x Hx.out
    subst e
    have hat0 : decide (0 < at_) = true := decide_eq_true ha
    have hat1 : decide ((at_ : Int) > 0) = true := decide_eq_true (by omega)
    have hj2 : (at_ : Int) - 1 = (j : Int) := by omega
    have hjv : j < nv := by omega
    clear hj ha
    go_upto_region 25 with (refine wpList_boxRow rfl (.tmp 17) (.tmp 108) rfl rfl HPZ.out x.f0 rfl rfl ?_; intro V6 hp6 hg6)
    have HPC : Aside0 (V6.heap[gp]? = some (dotC p0)) := ⟨by rw [← HP0.out]; exact hp6⟩
    have HO := Aside0.mk (RN.keep HO.out (fun g hgo => hg6.block g (RN.lt HO.out hgo) (fun e => HOX.out g hgo (Option.some.inj e))))
    have HVB := Aside0.mk (HVB.out.grown hg6 HVB.out.size (fun q e => by cases e; exact HGP.out))
    clear y0 y1 y2 y3 y4 y5 hat0 hat1 hj2 hjv hp6 hg6 HP0
   all_goals
    clear HPZ
    go_wp2_with fail
    go_loopw [14, 18] (fun s i wr => ∃ (q : Nat) (Ao : Option Addr) (no co : Nat), s = .slice Ao no co ∧ i = .int .i64 q ∧ q ≤ k ∧ no ≤ 100000 + q ∧ Aside0 (∀ j : Nat, j < q → (⟨d.f0, d.f1 + (j : Int)⟩ : Dot) ∉ l0.map (·.f0)) ∧ Aside0 (RN wr V2.heap.size (.slice Ao no co) (joinJ gone ((List.range q).map (nodeE d p0 late l4)))) ∧ Aside0 (wr.heap[gp]? = some (dotC (parE d p0 q))) ∧ Aside0 (∀ g, (Value.slice Ao no co).ownBlock = some g → g ≠ gp) ∧ Aside0 (Below V2.heap.size V2 wr)) (fun _ i _ => k - (intOf i).toNat)
    case atStart => exact ⟨0, Ao, no, co, rfl, rfl, Nat.zero_le _, by omega, ⟨fun j h => absurd h (Nat.not_lt_zero _)⟩, HO, HPC, HOX, HVB⟩
    case round =>
     obtain ⟨q3, Ao3, no3, co3, rfl, rfl, hq3, hno3, HNO, HO, HPC, HOX, HVB⟩ := hrel
     by_cases hlt : q3 < k
     ·
      obtain ⟨r, Hr⟩ : ∃ r, Aside0 (l4[q3]? = some r) := ⟨_, ⟨List.getElem?_eq_getElem (by rw [Hm.out]; exact hlt)⟩⟩
      obtain ⟨p, Hp⟩ : ∃ p, Aside0 (parE d p0 q3 = p) := ⟨_, ⟨rfl⟩⟩
      rw [Hp.out] at HPC
      obtain ⟨al, e, _⟩ := rune_at HR4.out HVB.out q3 r Hr.out
      subst e
      obtain ⟨x, Hx⟩ : ∃ x, Aside0 (x = (⟨⟨d.f0, d.f1 + (q3 : Int)⟩, p, late + 1 + (q3 : Int), r⟩ : Node)) := ⟨_, ⟨rfl⟩⟩
      have HXE : Aside0 (nodeE d p0 late l4 q3 = x) := ⟨by rw [Hx.out]; unfold nodeE; rw [Hp.out, List.getD_eq_getElem?_getD, Hr.out]; rfl⟩
      have HKM : Aside0 (q3 < k ∧ k ≤ 20000) := ⟨hlt, HL.out.2⟩
      have HW5 : Aside0 (wrap64 (d.f1 + (q3 : Int)) = d.f1 + (q3 : Int)) := ⟨by have := HKM.out; have := HD.out; unfold wrap64; omega⟩
      have HW9 : Aside0 (wrap64 (late + 1) = late + 1) := ⟨by have := HKM.out; have := HLA.out; unfold wrap64; omega⟩
      have HW11 : Aside0 (wrap64 (late + 1 + (q3 : Int)) = late + 1 + (q3 : Int)) := ⟨by have := HKM.out; have := HLA.out; unfold wrap64; omega⟩
      go_wp2_with fail
      refine AnyOrder.wp_region (by kernel_rfl) (rp28Inv wr.drew A0 al n c0 k c4 q3 gd gp late r d p _ _ _ _ _ _ _ _ _ _ _ _ _ _ _ _ _ _ _ _ _ _ _ _ _ _ _ _ _ _ _ _ _ _ _ _ _ _ _ _ _ _ _ _ _ _ _ _ _ _ _ _ _ _ _ _ _ _ _ _ _ _ _ _ _ _ _ _ _ _ _ _ _ _ _ _ _ _ _ _ _ _ _ _ _ _ _ _ _ _ _ _ _ _ _ _ _ _ _ _ _ _ _ _ _ _ _ _ _ _ _ _ _ _ _ _ _ _ _ _ _ _ _ _ _ _ _ _ _ _ _ _ _ _ _ _ _ _ _ _) ⟨false, false, false, false, false, false, false, false, false, false, false, false, false, false, false, false, false, false, false, false, 0, rfl, rfl, ⟨⟨fun h => (by cases h), Below.refl _ _, fun h _ => (by cases h), fun h => (by cases h), fun h => (by cases h)⟩⟩⟩ ?step ?last
      case step =>
       rintro L ac V i ⟨l0, l1, l2, l3, l4, l5, l6, l7, l8, l9, l10, l11, l12, l13, l14, l15, l16, l17, l18, l19, g, rfl, rfl, HF⟩ hi K hK
       rcases AnyOrder.up hi [0, 2, 4, 6, 8, 11, 13, 14, 17, 1, 3, 5, 7, 9, 10, 12, 15, 16, 18, 19] rfl with rfl | rfl | rfl | rfl | rfl | rfl | rfl | rfl | rfl | rfl | rfl | rfl | rfl | rfl | rfl | rfl | rfl | rfl | rfl | rfl
       all_goals
        replace hi := AnyOrder.first hi rfl
        repeat (obtain ⟨ha, hi⟩ := hi; first | obtain rfl := ha | clear ha)
        clear hi
        try simp only [sel_true, selv_true] at hK ⊢
       iterate 9
        ·
         refine AnyOrder.wpOp_go rfl (by rfl) ?_
         go_wp2_with fail
         exact ⟨_, _, _, _, _, _, _, _, _, _, _, _, _, _, _, _, _, _, _, _, g, rfl, rfl, HF⟩
       iterate 2
        ·
         obtain ⟨q0, q1⟩ := dot_cells (blk_keep HDC.out (below_more HVB.out (below_more (below_drew1 (Below.refl _ wr)) HF.out.below)))
         refine AnyOrder.wpOp_go rfl (by rfl) ?_
         go_wp2_with fail
         exact ⟨_, _, _, _, _, _, _, _, _, _, _, _, _, _, _, _, _, _, _, _, g, rfl, rfl, HF⟩
       ·
        refine AnyOrder.wpOp_go rfl (by rfl) ?_
        go_wp2_with fail
        rw [HW5.out]
        exact ⟨_, _, _, _, _, _, _, _, _, _, _, _, _, _, _, _, _, _, _, _, g, rfl, rfl, HF⟩
       ·
        obtain ⟨q0, q1⟩ := dot_cells (blk_keep (blk_drew HPC.out) HF.out.below)
        refine AnyOrder.wpOp_go rfl (by rfl) ?_
        go_wp2_with fail
        exact ⟨_, _, _, _, _, _, _, _, _, _, _, _, _, _, _, _, _, _, _, _, g, rfl, rfl, HF⟩
       ·
        refine AnyOrder.wpOp_go rfl (by rfl) ?_
        go_wp2_with fail
        refine (HLATE.out V (below_more HVB.out (below_more (below_drew1 (Below.refl _ wr)) HF.out.below))).mono ?_
        rintro e V' ⟨rfl, hb⟩
        exact hK _ _ ⟨_, _, _, _, _, _, _, _, _, _, _, _, _, _, _, _, _, _, _, _, g, rfl, rfl, ⟨⟨HF.out.ord, below_more HF.out.below hb, fun h1 h2 => blk_keep (HF.out.bz h1 h2) hb, fun h => blk_keep (HF.out.bx h) hb, HF.out.ge⟩⟩⟩
       ·
        refine AnyOrder.wpOp_go rfl (by rfl) ?_
        go_wp2_with fail
        rw [HW9.out]
        exact ⟨_, _, _, _, _, _, _, _, _, _, _, _, _, _, _, _, _, _, _, _, g, rfl, rfl, HF⟩
       ·
        refine AnyOrder.wpOp_go rfl (by rfl) ?_
        go_wp2_with fail
        rw [HW11.out]
        exact ⟨_, _, _, _, _, _, _, _, _, _, _, _, _, _, _, _, _, _, _, _, g, rfl, rfl, HF⟩
       ·
        have hkm := HKM.out
        refine AnyOrder.wpOp_go rfl (by rfl) ?_
        go_wp2_with fail
        exact ⟨_, _, _, _, _, _, _, _, _, _, _, _, _, _, _, _, _, _, _, _, g, rfl, rfl, HF⟩
       ·
        obtain ⟨al', e, q0⟩ := rune_at HR4.out (below_more HVB.out (below_more (below_drew1 (Below.refl _ wr)) HF.out.below)) q3 r Hr.out
        cases e
        refine AnyOrder.wpOp_go rfl (by rfl) ?_
        go_wp2_with fail
        exact ⟨_, _, _, _, _, _, _, _, _, _, _, _, _, _, _, _, _, _, _, _, g, rfl, rfl, HF⟩
       ·
        obtain rfl : l19 = false := by cases l19 with | false => rfl | true => cases HF.out.ord rfl
        have hb1 := below_alloc (Below.refl _ V) boxZ
        refine AnyOrder.wpOp_go rfl (by rfl) ?_
        go_wp2_with fail
        exact ⟨_, _, _, _, _, _, _, _, _, _, _, _, _, _, _, _, _, _, _, _, V.heap.size, rfl, rfl, ⟨⟨fun h => (by cases h), below_more HF.out.below hb1, fun _ _ => blk_new _ _, fun h => (by cases h), fun _ => HF.out.below.size⟩⟩⟩
       ·
        refine AnyOrder.wpOp_go rfl (by rfl) ?_
        refine op_boxNode (.tmp 19) (.tmp 132) rfl rfl (HF.out.bz rfl rfl) ⟨⟨d.f0, d.f1 + (q3 : Int)⟩, p, late + 1 + (q3 : Int), r⟩ rfl rfl ?_
        intro W4 h1 h2
        exact hK _ _ ⟨_, _, _, _, _, _, _, _, _, _, _, _, _, _, _, _, _, _, _, _, g, rfl, rfl, ⟨⟨fun _ => rfl, HF.out.below.grown h2 HF.out.below.size (fun q e => by cases e; exact HF.out.ge rfl), fun _ h => (by cases h), fun _ => h1, HF.out.ge⟩⟩⟩
      case last =>
       rintro L ac V ⟨l0, l1, l2, l3, l4, l5, l6, l7, l8, l9, l10, l11, l12, l13, l14, l15, l16, l17, l18, l19, g, rfl, rfl, HF⟩ hr
       obtain ⟨rfl, rfl, rfl, rfl, rfl, rfl, rfl, rfl, rfl, rfl, rfl, rfl, rfl, rfl, rfl, rfl, rfl, rfl, rfl, rfl, -⟩ := AnyOrder.alls rfl (by kernel_rfl) hr
       clear hr
       simp only [sel_true, selv_true]
       have HX : Aside0 (V.heap[g]? = some (boxN x)) := ⟨by rw [Hx.out]; exact HF.out.bx rfl⟩
       have hbb := below_more (below_drew1 (Below.refl _ wr)) HF.out.below
       have HGX : Aside0 (gp < g) := ⟨Nat.lt_of_lt_of_le (blk_lt HPC.out) (HF.out.ge rfl)⟩
       have HO := Aside0.mk (RN.below' HO.out hbb)
       have HPC := Aside0.mk (blk_keep HPC.out hbb)
       have HVB := Aside0.mk (below_more HVB.out hbb)
       have HXD : Aside0 (x.f0 = ⟨d.f0, d.f1 + (q3 : Int)⟩) := ⟨by rw [Hx.out]⟩
       clear HF hbb Hx HW5 HW9 HW11
       generalize g = gx at *
       obtain ⟨fi, Hfi⟩ : ∃ q, Aside0 (idxFrom (dotIs x.f0) l0 = q) := ⟨_, ⟨rfl⟩⟩
       have hfd := HFIND.out x.f0 V HVB.out
       rw [Hfi.out] at hfd
       have HFD := Aside0.mk hfd
       clear hfd
       obtain ⟨x0, x1, x2, x3, x4, x5⟩ := box_six HX.out
       go_wp2_with fail
       clear x0 x1 x2 x3 x4 x5
       refine HFD.out.mono ?_
       rintro e V8 ⟨rfl, hb⟩
       have HX := Aside0.mk (blk_keep HX.out hb)
       have HPC := Aside0.mk (blk_keep HPC.out hb)
       have HPC8 := HPC
       have HO := Aside0.mk (RN.below' HO.out hb)
       have HVB := Aside0.mk (below_more HVB.out hb)
       clear hb HFD
       cases hf : l0.findIdx? (dotIs x.f0) with
       | some j =>
        have hfe : fi = (j : Int) := by rw [← Hfi.out]; unfold idxFrom; rw [hf]
        have HEND := Aside0.mk (replJ_busy HRES.out HERR.out (busy_yes (i := q3) (by rw [Hm.out]; exact hlt) (by rw [← HXD.out]; exact jfind_in hf)))
        subst hfe
        have gq : decide ((j : Int) ≥ 0) = true := decide_eq_true (by omega)
        clear hf
        go_wp2
        go_ret2
        rw [HEND.out.1, HEND.out.2]
        exact ⟨_, rfl, Kd.R_nil _ _ _ _ _, below_more HB.out HVB.out⟩
       | none =>
        have hfe : fi = -1 := by rw [← Hfi.out]; unfold idxFrom; rw [hf]
        have HNO : Aside0 (∀ j : Nat, j < q3 + 1 → (⟨d.f0, d.f1 + (j : Int)⟩ : Dot) ∉ l0.map (·.f0)) := ⟨fun j hj => by
         rcases Nat.lt_succ_iff_lt_or_eq.1 hj with h | h
         ·
          exact HNO.out j h
         ·
          subst h
          rw [← HXD.out]
          exact jfind_out hf⟩
        subst hfe
        clear hf
        have HST := Aside0.mk (rang_succ (g := gone) HXE.out)
        obtain ⟨o, Ho⟩ : ∃ o, Aside0 (joinJ gone ((List.range q3).map (nodeE d p0 late l4)) = o) := ⟨_, ⟨rfl⟩⟩
        rw [Ho.out] at HO HST
        have HOL : Aside0 (o.length = no3) := ⟨(RN.C HO.out).1⟩
        have hb0 := below_alloc (Below.refl V8.heap.size V8) (boxN x)
        have hsz := Nat.le_trans HVB.out.size hb0.size
        have hcall := redpencilref14_Join.calls Ao3 co3 o (some ⟨V8.heap.size, 0, none⟩) 1 [x] (joinJ o [x]) (V8.alloc (boxN x)) (by rw [HOL.out]; exact (RN.C (RN.below' HO.out hb0)).2.2) (by rw [HOL.out]; exact (RN.C HO.out).2.1) (boxN_C (blk_new V8 (boxN x))) (Nat.le_refl _) (by unfold redpencilref14_Join.f; rw [if_pos (by rw [HOL.out, List.length_singleton]; omega)])
        rw [HOL.out] at hcall
        have HCALL := Aside0.mk hcall
        clear hcall
        obtain ⟨x0, x1, x2, x3, x4, x5⟩ := box_six HX.out
        go_wp2_with fail
        clear x0 x1 x2 x3 x4 x5
        refine HCALL.out.mono ?_
        rintro e V9 ⟨v9, rfl, hr9, hb9⟩
        obtain ⟨A9, c9, rfl⟩ := RN.slice hr9
        have hb1 := below_more hb0 hb9
        have HX := Aside0.mk (blk_keep HX.out hb1)
        have HPC := Aside0.mk (blk_keep HPC.out hb1)
        have HVB := Aside0.mk (below_more HVB.out hb1)
        have HGL : Aside0 (∀ g, (Value.slice A9 (joinJ o [x]).length c9).ownBlock = some g → g ≠ gp) := ⟨fun g hg e => by
         have h1 := (RN.block hr9 hg).1
         have h4 := blk_lt HPC8.out
         have h5 := hb0.size
         omega⟩
        have hle := joinJ_le [x] o
        rw [HOL.out, List.length_singleton] at hle
        have HO9 := Aside0.mk (Kd.R_lower hr9 hsz)
        obtain ⟨n9, Hn9⟩ : ∃ k, Aside0 ((joinJ o [x]).length = k) := ⟨_, ⟨rfl⟩⟩
        rw [Hn9.out] at HO9 HGL hle ⊢
        rw [HST.out] at HO9
        clear hr9 hb9 hb0 hb1 hsz HCALL HO
        obtain ⟨x0, x1, x2, x3, x4, x5⟩ := box_six HX.out
        go_upto_region 27 with (refine wpList_boxRow rfl (.tmp 17) (.tmp 143) rfl rfl HPC.out x.f0 rfl rfl ?_; intro V10 hp10 hg10)
        clear x0 x1 x2 x3 x4 x5
        have HO := Aside0.mk (RN.keep HO9.out (fun g hgo => hg10.block g (RN.lt HO9.out hgo) (fun e => HGL.out g hgo (Option.some.inj e))))
        have HPC : Aside0 (V10.heap[gp]? = some (dotC (parE d p0 (q3 + 1)))) := ⟨by rw [show parE d p0 (q3 + 1) = x.f0 from HXD.out.symm]; exact hp10⟩
        have HVB := Aside0.mk (HVB.out.grown hg10 HVB.out.size (fun q e => by cases e; exact HGP.out))
        clear hp10 hg10 HO9
        go_wp2
        go_roundw
        case rel => exact ⟨q3 + 1, A9, n9, c9, rfl, by go_num, by omega, by omega, HNO, HO, HPC, HGL, HVB⟩
        case measure => simp [intOf]; omega
     ·
      obtain rfl : q3 = k := by omega
      have HEND := Aside0.mk (replJ_fin HRES.out HERR.out (by rw [Hm.out]; exact busy_no HNO.out))
      have HCH : Aside0 (r1 = joinJ gone ((List.range q3).map (nodeE d p0 late l4))) := ⟨by
       rw [HEND.out.1, Hgo.out, Hp0.out, Hla.out]
       unfold chainE
       rw [Hm.out]⟩
      go_wp2
      go_ret2
      rw [HCH.out, HEND.out.2]
      exact ⟨_, rfl, Kd.R_lower HO.out HB.out.size, below_more HB.out HVB.out⟩
end Go.Proofs.YtmbndijbpgobeaaGreat.PWalk
end
section
namespace Go.Proofs.YtmbndijbpgobeaaGreat.PWalk
open Go.RowKit Go.Proofs.YtmbndijbpgobeaaGreatW.PrintWords Go.Proofs.YtmbndijbpgobeaaGreatW.PrintLast Go.Proofs.YtmbndijbpgobeaaGreatW.PrintMore
attribute [local go_sem] max2_int max_two
set_option linter.unusedVariables false
set_option linter.unusedSimpArgs false
def redpencilref15_Delete.f (l0 : List (S53)) (a1 : Int) (a2 : Int) : Option ((List (S53)) × Int) := (redpencilref15_Replace.f l0 1 1 a1 a2 ([] : List Int)).bind fun bt284 => (some (bt284.1, bt284.2))
set_option maxHeartbeats 8000000 in
set_option maxRecDepth 100000 in
theorem redpencilref15_Delete.calls (A0 : Option Addr) (c0 : Nat) (l0 : List (S53)) (a1 : Int) (a2 : Int) (r1 : List (S53)) (r2 : Int) (w : World) (hr0 : Kd.C k53 w A0 l0.length l0) (hc0 : l0.length ≤ c0) (h : redpencilref15_Delete.f l0 a1 a2 = some (r1, r2)) :
  Calls Tryz.prog 17 #[.slice A0 l0.length c0, .int .i64 a1, .int .i64 a2] w fun e w' => ∃ v0_ : Value, e = .returned (.tuple #[v0_, .int .i64 r2]) ∧ Kd.R k53 53 w' w.heap.size (fun _ => True) v0_ r1 ∧ Below w.heap.size w w' := by
 have hu25 := Tryz.underlying25
 have HR0 := Aside0.mk hr0
 have HC0 := Aside0.mk hc0
 clear hr0 hc0
 have HB := Aside0.mk (Below.refl w.heap.size w)
 have H : ((redpencilref15_Replace.f l0 1 1 a1 a2 ([] : List Int)).bind fun bt284 => (some (bt284.1, bt284.2))) = some (r1, r2) := h
 clear h
 replace H := Option.bind_eq_some_iff.mp H
 obtain ⟨⟨t284, t287⟩, A40, H⟩ := H
 replace H : (some (t284, t287)) = some (r1, r2) := H
 have A4 := Aside0.mk A40
 clear A40
 simp only [Option.some.injEq, Prod.mk.injEq] at H
 obtain ⟨rfl, rfl⟩ := H
 go_enter Tryz.func17, Tryz.ntmps17
 go_wp2_with (first | ((with_reducible refine gate_callee (f := 12) rfl ?_); refine goesL_ (some 12) rfl rfl Tryz.func12 (by kernel_rfl) rfl #[.slice A0 l0.length c0, .agg #[.int .i64 1, .int .i64 1], .int .i64 a1, .int .i64 a2, .slice none 0 0] rfl (by (try simp only [List.map_toArray, List.map_cons, List.map_nil]); first | done | rfl | (simp only [List.length_drop, List.length_take]; rfl)) ?_; (refine (redpencilref15_Replace.calls _ _ l0 1 1 a1 a2 _ _ ([] : List Int) t284 t287 _ ?side1 ?side2 ?side3 ?side4 A4.out).mono ?_); (case side1 => repeat (first | exact HR0.out | (with_reducible refine Kd.C_alloc ?_ _) | (with_reducible refine Kd.C_drewN ?_ _) | (with_reducible refine Kd.C_drew ?_))); (case side2 => exact HC0.out); (case side3 => exact Kd.C_nil _ _); (case side4 => exact Nat.le_refl _); rintro e w5 ⟨v285, rfl, ho0, hb⟩; refine ⟨_, rfl, ?_⟩; have n0_ := Aside0.mk (Kd.R_lower ho0 (below_size (by repeat (first | (with_reducible first | exact HB.out | apply below_alloc | apply pw_below_drewN | apply below_drew1) | exact HB.out)))); have n1_ := Aside0.mk (below_step (by repeat (first | (with_reducible first | exact HB.out | apply below_alloc | apply pw_below_drewN | apply below_drew1) | exact HB.out)) hb); clear HB; have HO286 := n0_; have HB := n1_; clear n0_ n1_; (try clear hb); (try clear hb2); (try clear hk); (try clear hi); (try clear ho0)))
 go_ret2
 exact ⟨_, by first | rfl | (simp [errW_none, errW_some] <;> rfl) | (simp [*, errW_none, errW_some] <;> rfl), by (with_reducible repeat (first | apply Kd.R_alloc | apply Kd.R_drewN | apply Kd.R_drew)); exact HO286.out, by repeat (first | (with_reducible first | exact HB.out | apply below_alloc | apply pw_below_drewN | apply below_drew1) | exact HB.out)⟩
end Go.Proofs.YtmbndijbpgobeaaGreat.PWalk
end
section
namespace Go.Proofs.YtmbndijbpgobeaaGreat.PWalk
open Go.RowKit Go.Proofs.YtmbndijbpgobeaaGreatW.PrintWords Go.Proofs.YtmbndijbpgobeaaGreatW.PrintLast Go.Proofs.YtmbndijbpgobeaaGreatW.PrintMore
attribute [local go_sem] max2_int max_two
set_option linter.unusedVariables false
set_option linter.unusedSimpArgs false
def redpencillaw15_EditDeletes.f (k : Nat) (l0 : List (S53)) (a1 : Int) (a2 : Int) : Option (Bool) := if (l0.length : Int) > 40 then ((redpencillaw15_known.f).bind fun t288 => (some t288)) else ((redpencilref14_Copy.f l0).bind fun t289 => ((redpencilref15_Delete.f l0 a1 a2).bind fun bt292 => ((redpencillaw15_deletes.f k l0 a1 a2 bt292.1 bt292.2).bind fun t296 => (if t296 = true then ((edit_Delete.f l0 a1 a2).bind fun bt297 => ((redpencilref14_Stain.f k bt297.1).bind fun t301 => ((redpencilref14_Same.f k l0 t289).bind fun t302 => (if t302 = true then ((redpencillaw15_known.f).bind fun t303 => (some t303)) else (some false))))) else (some false)))))
set_option maxHeartbeats 8000000 in
set_option maxRecDepth 100000 in
theorem redpencillaw15_EditDeletes.calls (k : Nat) (A0 : Option Addr) (c0 : Nat) (l0 : List (S53)) (a1 : Int) (a2 : Int) (r : Bool) (w : World) (hr0 : Kd.C k53 w A0 l0.length l0) (hc0 : l0.length ≤ c0) (h : redpencillaw15_EditDeletes.f k l0 a1 a2 = some r) :
  Calls Tryz.prog 4 #[.slice A0 l0.length c0, .int .i64 a1, .int .i64 a2] w fun e w' => e = .returned (.bool r) ∧ Below w.heap.size w w' := by
 have HR0 := Aside0.mk hr0
 have HC0 := Aside0.mk hc0
 clear hr0 hc0
 have HB := Aside0.mk (Below.refl w.heap.size w)
 have H : (if (l0.length : Int) > 40 then ((redpencillaw15_known.f).bind fun t288 => (some t288)) else ((redpencilref14_Copy.f l0).bind fun t289 => ((redpencilref15_Delete.f l0 a1 a2).bind fun bt292 => ((redpencillaw15_deletes.f k l0 a1 a2 bt292.1 bt292.2).bind fun t296 => (if t296 = true then ((edit_Delete.f l0 a1 a2).bind fun bt297 => ((redpencilref14_Stain.f k bt297.1).bind fun t301 => ((redpencilref14_Same.f k l0 t289).bind fun t302 => (if t302 = true then ((redpencillaw15_known.f).bind fun t303 => (some t303)) else (some false))))) else (some false)))))) = some r := h
 clear h
 by_cases c4 : (l0.length : Int) > 40
 ·
  rw [if_pos c4] at H
  have c4b0 : decide (40 < (l0.length : Int)) = true := decide_eq_true c4
  have c4b1 : decide (40 < l0.length) = true := decide_eq_true (by omega)
  clear c4
  replace H := Option.bind_eq_some_iff.mp H
  obtain ⟨t288, A50, H⟩ := H
  replace H : (some t288) = some r := H
  have A5 := Aside0.mk A50
  clear A50
  obtain rfl := Option.some.inj H
  go_enter Tryz.func4, Tryz.ntmps4
  go_wp2_with (first | ((with_reducible refine gate_callee (f := 10) rfl ?_); refine goesL_ (some 15) rfl rfl Tryz.func10 (by kernel_rfl) rfl #[] rfl (by (try simp only [List.map_toArray, List.map_cons, List.map_nil]); first | done | rfl | (simp only [List.length_drop, List.length_take]; rfl)) ?_; (with_reducible refine (redpencillaw15_known.calls  t288 _ A5.out).mono ?_); rintro e w6 ⟨rfl, hb⟩; refine ⟨_, rfl, ?_⟩; have n0_ := Aside0.mk (below_step (by repeat (first | (with_reducible first | exact HB.out | apply below_alloc | apply pw_below_drewN | apply below_drew1) | exact HB.out)) hb); clear HB; have HB := n0_; clear n0_; (try clear hb); (try clear hb2); (try clear hk); (try clear hi)))
  go_ret
  exact ⟨by first | rfl | (simp [errW_none, errW_some] <;> rfl) | (simp [*, errW_none, errW_some] <;> rfl), by repeat (first | (with_reducible first | exact HB.out | apply below_alloc | apply pw_below_drewN | apply below_drew1) | exact HB.out)⟩
 ·
  rw [if_neg c4] at H
  have c4b0 : decide (40 < (l0.length : Int)) = false := decide_eq_false c4
  have c4b1 : decide (40 < l0.length) = false := decide_eq_false (by omega)
  clear c4
  replace H := Option.bind_eq_some_iff.mp H
  obtain ⟨t289, A70, H⟩ := H
  replace H : ((redpencilref15_Delete.f l0 a1 a2).bind fun bt292 => ((redpencillaw15_deletes.f k l0 a1 a2 bt292.1 bt292.2).bind fun t296 => (if t296 = true then ((edit_Delete.f l0 a1 a2).bind fun bt297 => ((redpencilref14_Stain.f k bt297.1).bind fun t301 => ((redpencilref14_Same.f k l0 t289).bind fun t302 => (if t302 = true then ((redpencillaw15_known.f).bind fun t303 => (some t303)) else (some false))))) else (some false)))) = some r := H
  have A7 := Aside0.mk A70
  clear A70
  replace H := Option.bind_eq_some_iff.mp H
  obtain ⟨⟨t292, t293⟩, A80, H⟩ := H
  replace H : ((redpencillaw15_deletes.f k l0 a1 a2 t292 t293).bind fun t296 => (if t296 = true then ((edit_Delete.f l0 a1 a2).bind fun bt297 => ((redpencilref14_Stain.f k bt297.1).bind fun t301 => ((redpencilref14_Same.f k l0 t289).bind fun t302 => (if t302 = true then ((redpencillaw15_known.f).bind fun t303 => (some t303)) else (some false))))) else (some false))) = some r := H
  have A8 := Aside0.mk A80
  clear A80
  replace H := Option.bind_eq_some_iff.mp H
  obtain ⟨t296, A90, H⟩ := H
  replace H : (if t296 = true then ((edit_Delete.f l0 a1 a2).bind fun bt297 => ((redpencilref14_Stain.f k bt297.1).bind fun t301 => ((redpencilref14_Same.f k l0 t289).bind fun t302 => (if t302 = true then ((redpencillaw15_known.f).bind fun t303 => (some t303)) else (some false))))) else (some false)) = some r := H
  have A9 := Aside0.mk A90
  clear A90
  by_cases c10 : t296 = true
  ·
   subst c10
   have H1 : ((edit_Delete.f l0 a1 a2).bind fun bt297 => ((redpencilref14_Stain.f k bt297.1).bind fun t301 => ((redpencilref14_Same.f k l0 t289).bind fun t302 => (if t302 = true then ((redpencillaw15_known.f).bind fun t303 => (some t303)) else (some false))))) = some r := by rw [if_pos rfl] at H; exact H
   clear H
   have H := H1
   clear H1
   replace H := Option.bind_eq_some_iff.mp H
   obtain ⟨⟨t297, t298⟩, A110, H⟩ := H
   replace H : ((redpencilref14_Stain.f k t297).bind fun t301 => ((redpencilref14_Same.f k l0 t289).bind fun t302 => (if t302 = true then ((redpencillaw15_known.f).bind fun t303 => (some t303)) else (some false)))) = some r := H
   have A11 := Aside0.mk A110
   clear A110
   replace H := Option.bind_eq_some_iff.mp H
   obtain ⟨t301, A120, H⟩ := H
   replace H : ((redpencilref14_Same.f k l0 t289).bind fun t302 => (if t302 = true then ((redpencillaw15_known.f).bind fun t303 => (some t303)) else (some false))) = some r := H
   have A12 := Aside0.mk A120
   clear A120
   replace H := Option.bind_eq_some_iff.mp H
   obtain ⟨t302, A130, H⟩ := H
   replace H : (if t302 = true then ((redpencillaw15_known.f).bind fun t303 => (some t303)) else (some false)) = some r := H
   have A13 := Aside0.mk A130
   clear A130
   by_cases c14 : t302 = true
   ·
    subst c14
    have H1 : ((redpencillaw15_known.f).bind fun t303 => (some t303)) = some r := by rw [if_pos rfl] at H; exact H
    clear H
    have H := H1
    clear H1
    replace H := Option.bind_eq_some_iff.mp H
    obtain ⟨t303, A150, H⟩ := H
    replace H : (some t303) = some r := H
    have A15 := Aside0.mk A150
    clear A150
    obtain rfl := Option.some.inj H
    go_enter Tryz.func4, Tryz.ntmps4
    go_wp2_with (first | ((with_reducible refine gate_callee (f := 11) rfl ?_); refine goesL_ (some 17) rfl rfl Tryz.func11 (by kernel_rfl) rfl #[.slice A0 l0.length c0] rfl (by (try simp only [List.map_toArray, List.map_cons, List.map_nil]); first | done | rfl | (simp only [List.length_drop, List.length_take]; rfl)) ?_; (with_reducible refine (redpencilref14_Copy.calls _ _ l0 t289 _ ?side1 ?side2 A7.out).mono ?_); (case side1 => repeat (first | exact HR0.out | (with_reducible refine Kd.C_alloc ?_ _) | (with_reducible refine Kd.C_drewN ?_ _) | (with_reducible refine Kd.C_drew ?_))); (case side2 => exact HC0.out); rintro e w16 ⟨v290, rfl, ho0, hb⟩; refine ⟨_, rfl, ?_⟩; have n0_ := Aside0.mk (Kd.R_lower ho0 (below_size (by repeat (first | (with_reducible first | exact HB.out | apply below_alloc | apply pw_below_drewN | apply below_drew1) | exact HB.out)))); have n1_ := Aside0.mk (below_step (by repeat (first | (with_reducible first | exact HB.out | apply below_alloc | apply pw_below_drewN | apply below_drew1) | exact HB.out)) hb); clear HB; have HO291 := n0_; have HB := n1_; clear n0_ n1_; (try clear hb); (try clear hb2); (try clear hk); (try clear hi); (try clear ho0)) | ((with_reducible refine gate_callee (f := 17) rfl ?_); refine goesL_ (some 22) rfl rfl Tryz.func17 (by kernel_rfl) rfl #[.slice A0 l0.length c0, .int .i64 a1, .int .i64 a2] rfl (by (try simp only [List.map_toArray, List.map_cons, List.map_nil]); first | done | rfl | (simp only [List.length_drop, List.length_take]; rfl)) ?_; (with_reducible refine (redpencilref15_Delete.calls _ _ l0 a1 a2 t292 t293 _ ?side1 ?side2 A8.out).mono ?_); (case side1 => repeat (first | exact (Kd.C_below HR0.out HB.out) | (with_reducible refine Kd.C_alloc ?_ _) | (with_reducible refine Kd.C_drewN ?_ _) | (with_reducible refine Kd.C_drew ?_))); (case side2 => exact HC0.out); rintro e w17 ⟨v294, rfl, ho0, hb⟩; refine ⟨_, rfl, ?_⟩; have n0_ := Aside0.mk (Kd.R_elder' (by (with_reducible repeat (first | apply Kd.R_alloc | apply Kd.R_drewN | apply Kd.R_drew)); exact HO291.out) (Kd.R_base ho0) hb); have n1_ := Aside0.mk (Kd.R_lower (Kd.R_new' ho0 (Kd.R_lt (by (with_reducible repeat (first | apply Kd.R_alloc | apply Kd.R_drewN | apply Kd.R_drew)); exact HO291.out))) (below_size (by repeat (first | (with_reducible first | exact HB.out | apply below_alloc | apply pw_below_drewN | apply below_drew1) | exact HB.out)))); have n2_ := Aside0.mk (below_step (by repeat (first | (with_reducible first | exact HB.out | apply below_alloc | apply pw_below_drewN | apply below_drew1) | exact HB.out)) hb); clear HO291; clear HB; have HO291 := n0_; have HO295 := n1_; have HB := n2_; clear n0_ n1_ n2_; (try clear hb); (try clear hb2); (try clear hk); (try clear hi); (try clear ho0); obtain ⟨Ao18, co18, eo18⟩ := Kd.R_slice HO295.out; subst eo18) | ((with_reducible refine gate_callee (f := 18) rfl ?_); refine goesL_ (some 30) rfl rfl Tryz.func18 (by kernel_rfl) rfl #[.slice A0 l0.length c0, .int .i64 a1, .int .i64 a2, .slice Ao18 t292.length co18, .int .i64 t293] rfl (by (try simp only [List.map_toArray, List.map_cons, List.map_nil]); first | done | rfl | (simp only [List.length_drop, List.length_take]; rfl)) ?_; (with_reducible refine (redpencillaw15_deletes.calls k _ _ l0 a1 a2 _ _ t292 t293 true _ ?side1 ?side2 ?side3 ?side4 A9.out).mono ?_); (case side1 => repeat (first | exact (Kd.C_below HR0.out HB.out) | (with_reducible refine Kd.C_alloc ?_ _) | (with_reducible refine Kd.C_drewN ?_ _) | (with_reducible refine Kd.C_drew ?_))); (case side2 => exact HC0.out); (case side3 => repeat (first | exact (Kd.R_reads' HO295.out).2.2 | (with_reducible refine Kd.C_alloc ?_ _) | (with_reducible refine Kd.C_drewN ?_ _) | (with_reducible refine Kd.C_drew ?_))); (case side4 => exact (Kd.R_reads' HO295.out).2.1); rintro e w19 ⟨rfl, hb⟩; refine ⟨_, rfl, ?_⟩; have n0_ := Aside0.mk (Kd.R_below (by (with_reducible repeat (first | apply Kd.R_alloc | apply Kd.R_drewN | apply Kd.R_drew)); exact HO291.out) hb); have n1_ := Aside0.mk (Kd.R_below (by (with_reducible repeat (first | apply Kd.R_alloc | apply Kd.R_drewN | apply Kd.R_drew)); exact HO295.out) hb); have n2_ := Aside0.mk (below_step (by repeat (first | (with_reducible first | exact HB.out | apply below_alloc | apply pw_below_drewN | apply below_drew1) | exact HB.out)) hb); clear HO291; clear HO295; clear HB; have HO291 := n0_; have HO295 := n1_; have HB := n2_; clear n0_ n1_ n2_; (try clear hb); (try clear hb2); (try clear hk); (try clear hi)) | ((with_reducible refine gate_callee (f := 19) rfl ?_); refine goesL_ (some 36) rfl rfl Tryz.func19 (by kernel_rfl) rfl #[.slice A0 l0.length c0, .int .i64 a1, .int .i64 a2] rfl (by (try simp only [List.map_toArray, List.map_cons, List.map_nil]); first | done | rfl | (simp only [List.length_drop, List.length_take]; rfl)) ?_; (with_reducible refine (edit_Delete.calls _ _ l0 a1 a2 t297 t298 _ ?side1 ?side2 A11.out).mono ?_); (case side1 => repeat (first | exact (Kd.C_below HR0.out HB.out) | (with_reducible refine Kd.C_alloc ?_ _) | (with_reducible refine Kd.C_drewN ?_ _) | (with_reducible refine Kd.C_drew ?_))); (case side2 => exact HC0.out); rintro e w20 ⟨v299, rfl, ho0, hb⟩; refine ⟨_, rfl, ?_⟩; have n0_ := Aside0.mk (Kd.R_elder' (by (with_reducible repeat (first | apply Kd.R_alloc | apply Kd.R_drewN | apply Kd.R_drew)); exact HO291.out) (Kd.R_base ho0) hb); have n1_ := Aside0.mk (Kd.R_elder' (by (with_reducible repeat (first | apply Kd.R_alloc | apply Kd.R_drewN | apply Kd.R_drew)); exact HO295.out) (Kd.R_base ho0) hb); have n2_ := Aside0.mk (Kd.R_lower (Kd.R_new' (Kd.R_new' ho0 (Kd.R_lt (by (with_reducible repeat (first | apply Kd.R_alloc | apply Kd.R_drewN | apply Kd.R_drew)); exact HO291.out))) (Kd.R_lt (by (with_reducible repeat (first | apply Kd.R_alloc | apply Kd.R_drewN | apply Kd.R_drew)); exact HO295.out))) (below_size (by repeat (first | (with_reducible first | exact HB.out | apply below_alloc | apply pw_below_drewN | apply below_drew1) | exact HB.out)))); have n3_ := Aside0.mk (below_step (by repeat (first | (with_reducible first | exact HB.out | apply below_alloc | apply pw_below_drewN | apply below_drew1) | exact HB.out)) hb); clear HO291; clear HO295; clear HB; have HO291 := n0_; have HO295 := n1_; have HO300 := n2_; have HB := n3_; clear n0_ n1_ n2_ n3_; (try clear hb); (try clear hb2); (try clear hk); (try clear hi); (try clear ho0); obtain ⟨Ao21, co21, eo21⟩ := Kd.R_slice HO300.out; subst eo21) | ((with_reducible refine gate_callee (f := 15) rfl ?_); refine goesL_ (some 40) rfl rfl Tryz.func15 (by kernel_rfl) rfl #[.slice Ao21 t297.length co21] rfl (by (try simp only [List.map_toArray, List.map_cons, List.map_nil]); first | done | rfl | (simp only [List.length_drop, List.length_take]; rfl)) ?_; (with_reducible refine (redpencilref14_Stain.calls k (fun k_ => some k_ = (.slice Ao21 t297.length co21 : Value).ownBlock) (.slice Ao21 t297.length co21) t297 t301 w _ ?side1 ?side2 A12.out).mono ?_); (case side1 => repeat (first | (with_reducible first | exact HB.out | apply below_alloc | apply pw_below_drewN | apply below_drew1) | exact HB.out)); (case side2 => exact Kd.R_tight rfl HO300.out); rintro e w22 ⟨rfl, hy0, hb, hkp⟩; refine ⟨_, rfl, ?_⟩; have n0_ := Aside0.mk (Kd.R_mono (ok' := fun k_ => some k_ ≠ (.slice Ao18 t292.length co18 : Value).ownBlock ∧ some k_ ≠ (.slice Ao21 t297.length co21 : Value).ownBlock) (Kd.R_keptB (HO291.out) hkp (fun k_ hk_ hs_ => (hk_.2) hs_)) (fun k_ hk_ => ⟨hk_.1.1.2, hk_.1.2⟩)); have n1_ := Aside0.mk (Kd.R_mono (ok' := fun k_ => some k_ ≠ (v290 : Value).ownBlock ∧ some k_ ≠ (.slice Ao21 t297.length co21 : Value).ownBlock) (Kd.R_keptB (HO295.out) hkp (fun k_ hk_ hs_ => (hk_.2) hs_)) (fun k_ hk_ => ⟨hk_.1.1.2, hk_.1.2⟩)); have n2_ := Aside0.mk (Kd.R_reok rfl hy0 (fun k_ e_ => HO300.out.1 k_ e_)); have n3_ := Aside0.mk (hb); clear HO291; clear HO295; clear HO300; clear HB; have HO291 := n0_; have HO295 := n1_; have HO300 := n2_; have HB := n3_; clear n0_ n1_ n2_ n3_; (try clear hb); (try clear hkp); (try clear hy0); obtain ⟨Ao23, co23, eo23⟩ := Kd.R_slice HO291.out; subst eo23) | ((with_reducible refine gate_callee (f := 20) rfl ?_); refine goesL_ (some 43) rfl rfl Tryz.func20 (by kernel_rfl) rfl #[.slice A0 l0.length c0, .slice Ao23 t289.length co23] rfl (by (try simp only [List.map_toArray, List.map_cons, List.map_nil]); first | done | rfl | (simp only [List.length_drop, List.length_take]; rfl)) ?_; (with_reducible refine (redpencilref14_Same.calls k _ _ l0 _ _ t289 true _ ?side1 ?side2 ?side3 ?side4 A13.out).mono ?_); (case side1 => repeat (first | exact (Kd.C_below HR0.out HB.out) | (with_reducible refine Kd.C_alloc ?_ _) | (with_reducible refine Kd.C_drewN ?_ _) | (with_reducible refine Kd.C_drew ?_))); (case side2 => exact HC0.out); (case side3 => repeat (first | exact (Kd.R_reads' HO291.out).2.2 | (with_reducible refine Kd.C_alloc ?_ _) | (with_reducible refine Kd.C_drewN ?_ _) | (with_reducible refine Kd.C_drew ?_))); (case side4 => exact (Kd.R_reads' HO291.out).2.1); rintro e w' ⟨rfl, ⟨nd, rfl⟩⟩; refine ⟨_, rfl, ?_⟩) | (go_at_call 10; (with_reducible refine (redpencillaw15_known.calls  t303 _ A15.out).mono ?_); rintro e w24 ⟨rfl, hb⟩; have n0_ := Aside0.mk (Kd.R_below (by (with_reducible repeat (first | apply Kd.R_alloc | apply Kd.R_drewN | apply Kd.R_drew)); exact HO291.out) hb); have n1_ := Aside0.mk (Kd.R_below (by (with_reducible repeat (first | apply Kd.R_alloc | apply Kd.R_drewN | apply Kd.R_drew)); exact HO295.out) hb); have n2_ := Aside0.mk (Kd.R_below (by (with_reducible repeat (first | apply Kd.R_alloc | apply Kd.R_drewN | apply Kd.R_drew)); exact HO300.out) hb); have n3_ := Aside0.mk (below_step (by repeat (first | (with_reducible first | exact HB.out | apply below_alloc | apply pw_below_drewN | apply below_drew1) | exact HB.out)) hb); clear HO291; clear HO295; clear HO300; clear HB; have HO291 := n0_; have HO295 := n1_; have HO300 := n2_; have HB := n3_; clear n0_ n1_ n2_ n3_; (try clear hb); (try clear hb2); (try clear hk); (try clear hi)))
    go_ret
    exact ⟨by first | rfl | (simp [errW_none, errW_some] <;> rfl) | (simp [*, errW_none, errW_some] <;> rfl), by repeat (first | (with_reducible first | exact HB.out | apply below_alloc | apply pw_below_drewN | apply below_drew1) | exact HB.out)⟩
   ·
    replace c14 := Bool.eq_false_iff.mpr c14
    subst c14
    have H1 : (some false) = some r := by rw [if_neg (show ¬ (false = true) by decide)] at H; exact H
    clear H
    have H := H1
    clear H1
    obtain rfl := Option.some.inj H
    go_enter Tryz.func4, Tryz.ntmps4
    go_wp2_with (first | ((with_reducible refine gate_callee (f := 11) rfl ?_); refine goesL_ (some 17) rfl rfl Tryz.func11 (by kernel_rfl) rfl #[.slice A0 l0.length c0] rfl (by (try simp only [List.map_toArray, List.map_cons, List.map_nil]); first | done | rfl | (simp only [List.length_drop, List.length_take]; rfl)) ?_; (with_reducible refine (redpencilref14_Copy.calls _ _ l0 t289 _ ?side1 ?side2 A7.out).mono ?_); (case side1 => repeat (first | exact HR0.out | (with_reducible refine Kd.C_alloc ?_ _) | (with_reducible refine Kd.C_drewN ?_ _) | (with_reducible refine Kd.C_drew ?_))); (case side2 => exact HC0.out); rintro e w25 ⟨v290, rfl, ho0, hb⟩; refine ⟨_, rfl, ?_⟩; have n0_ := Aside0.mk (Kd.R_lower ho0 (below_size (by repeat (first | (with_reducible first | exact HB.out | apply below_alloc | apply pw_below_drewN | apply below_drew1) | exact HB.out)))); have n1_ := Aside0.mk (below_step (by repeat (first | (with_reducible first | exact HB.out | apply below_alloc | apply pw_below_drewN | apply below_drew1) | exact HB.out)) hb); clear HB; have HO291 := n0_; have HB := n1_; clear n0_ n1_; (try clear hb); (try clear hb2); (try clear hk); (try clear hi); (try clear ho0)) | ((with_reducible refine gate_callee (f := 17) rfl ?_); refine goesL_ (some 22) rfl rfl Tryz.func17 (by kernel_rfl) rfl #[.slice A0 l0.length c0, .int .i64 a1, .int .i64 a2] rfl (by (try simp only [List.map_toArray, List.map_cons, List.map_nil]); first | done | rfl | (simp only [List.length_drop, List.length_take]; rfl)) ?_; (with_reducible refine (redpencilref15_Delete.calls _ _ l0 a1 a2 t292 t293 _ ?side1 ?side2 A8.out).mono ?_); (case side1 => repeat (first | exact (Kd.C_below HR0.out HB.out) | (with_reducible refine Kd.C_alloc ?_ _) | (with_reducible refine Kd.C_drewN ?_ _) | (with_reducible refine Kd.C_drew ?_))); (case side2 => exact HC0.out); rintro e w26 ⟨v294, rfl, ho0, hb⟩; refine ⟨_, rfl, ?_⟩; have n0_ := Aside0.mk (Kd.R_elder' (by (with_reducible repeat (first | apply Kd.R_alloc | apply Kd.R_drewN | apply Kd.R_drew)); exact HO291.out) (Kd.R_base ho0) hb); have n1_ := Aside0.mk (Kd.R_lower (Kd.R_new' ho0 (Kd.R_lt (by (with_reducible repeat (first | apply Kd.R_alloc | apply Kd.R_drewN | apply Kd.R_drew)); exact HO291.out))) (below_size (by repeat (first | (with_reducible first | exact HB.out | apply below_alloc | apply pw_below_drewN | apply below_drew1) | exact HB.out)))); have n2_ := Aside0.mk (below_step (by repeat (first | (with_reducible first | exact HB.out | apply below_alloc | apply pw_below_drewN | apply below_drew1) | exact HB.out)) hb); clear HO291; clear HB; have HO291 := n0_; have HO295 := n1_; have HB := n2_; clear n0_ n1_ n2_; (try clear hb); (try clear hb2); (try clear hk); (try clear hi); (try clear ho0); obtain ⟨Ao27, co27, eo27⟩ := Kd.R_slice HO295.out; subst eo27) | ((with_reducible refine gate_callee (f := 18) rfl ?_); refine goesL_ (some 30) rfl rfl Tryz.func18 (by kernel_rfl) rfl #[.slice A0 l0.length c0, .int .i64 a1, .int .i64 a2, .slice Ao27 t292.length co27, .int .i64 t293] rfl (by (try simp only [List.map_toArray, List.map_cons, List.map_nil]); first | done | rfl | (simp only [List.length_drop, List.length_take]; rfl)) ?_; (with_reducible refine (redpencillaw15_deletes.calls k _ _ l0 a1 a2 _ _ t292 t293 true _ ?side1 ?side2 ?side3 ?side4 A9.out).mono ?_); (case side1 => repeat (first | exact (Kd.C_below HR0.out HB.out) | (with_reducible refine Kd.C_alloc ?_ _) | (with_reducible refine Kd.C_drewN ?_ _) | (with_reducible refine Kd.C_drew ?_))); (case side2 => exact HC0.out); (case side3 => repeat (first | exact (Kd.R_reads' HO295.out).2.2 | (with_reducible refine Kd.C_alloc ?_ _) | (with_reducible refine Kd.C_drewN ?_ _) | (with_reducible refine Kd.C_drew ?_))); (case side4 => exact (Kd.R_reads' HO295.out).2.1); rintro e w28 ⟨rfl, hb⟩; refine ⟨_, rfl, ?_⟩; have n0_ := Aside0.mk (Kd.R_below (by (with_reducible repeat (first | apply Kd.R_alloc | apply Kd.R_drewN | apply Kd.R_drew)); exact HO291.out) hb); have n1_ := Aside0.mk (Kd.R_below (by (with_reducible repeat (first | apply Kd.R_alloc | apply Kd.R_drewN | apply Kd.R_drew)); exact HO295.out) hb); have n2_ := Aside0.mk (below_step (by repeat (first | (with_reducible first | exact HB.out | apply below_alloc | apply pw_below_drewN | apply below_drew1) | exact HB.out)) hb); clear HO291; clear HO295; clear HB; have HO291 := n0_; have HO295 := n1_; have HB := n2_; clear n0_ n1_ n2_; (try clear hb); (try clear hb2); (try clear hk); (try clear hi)) | ((with_reducible refine gate_callee (f := 19) rfl ?_); refine goesL_ (some 36) rfl rfl Tryz.func19 (by kernel_rfl) rfl #[.slice A0 l0.length c0, .int .i64 a1, .int .i64 a2] rfl (by (try simp only [List.map_toArray, List.map_cons, List.map_nil]); first | done | rfl | (simp only [List.length_drop, List.length_take]; rfl)) ?_; (with_reducible refine (edit_Delete.calls _ _ l0 a1 a2 t297 t298 _ ?side1 ?side2 A11.out).mono ?_); (case side1 => repeat (first | exact (Kd.C_below HR0.out HB.out) | (with_reducible refine Kd.C_alloc ?_ _) | (with_reducible refine Kd.C_drewN ?_ _) | (with_reducible refine Kd.C_drew ?_))); (case side2 => exact HC0.out); rintro e w29 ⟨v299, rfl, ho0, hb⟩; refine ⟨_, rfl, ?_⟩; have n0_ := Aside0.mk (Kd.R_elder' (by (with_reducible repeat (first | apply Kd.R_alloc | apply Kd.R_drewN | apply Kd.R_drew)); exact HO291.out) (Kd.R_base ho0) hb); have n1_ := Aside0.mk (Kd.R_elder' (by (with_reducible repeat (first | apply Kd.R_alloc | apply Kd.R_drewN | apply Kd.R_drew)); exact HO295.out) (Kd.R_base ho0) hb); have n2_ := Aside0.mk (Kd.R_lower (Kd.R_new' (Kd.R_new' ho0 (Kd.R_lt (by (with_reducible repeat (first | apply Kd.R_alloc | apply Kd.R_drewN | apply Kd.R_drew)); exact HO291.out))) (Kd.R_lt (by (with_reducible repeat (first | apply Kd.R_alloc | apply Kd.R_drewN | apply Kd.R_drew)); exact HO295.out))) (below_size (by repeat (first | (with_reducible first | exact HB.out | apply below_alloc | apply pw_below_drewN | apply below_drew1) | exact HB.out)))); have n3_ := Aside0.mk (below_step (by repeat (first | (with_reducible first | exact HB.out | apply below_alloc | apply pw_below_drewN | apply below_drew1) | exact HB.out)) hb); clear HO291; clear HO295; clear HB; have HO291 := n0_; have HO295 := n1_; have HO300 := n2_; have HB := n3_; clear n0_ n1_ n2_ n3_; (try clear hb); (try clear hb2); (try clear hk); (try clear hi); (try clear ho0); obtain ⟨Ao30, co30, eo30⟩ := Kd.R_slice HO300.out; subst eo30) | ((with_reducible refine gate_callee (f := 15) rfl ?_); refine goesL_ (some 40) rfl rfl Tryz.func15 (by kernel_rfl) rfl #[.slice Ao30 t297.length co30] rfl (by (try simp only [List.map_toArray, List.map_cons, List.map_nil]); first | done | rfl | (simp only [List.length_drop, List.length_take]; rfl)) ?_; (with_reducible refine (redpencilref14_Stain.calls k (fun k_ => some k_ = (.slice Ao30 t297.length co30 : Value).ownBlock) (.slice Ao30 t297.length co30) t297 t301 w _ ?side1 ?side2 A12.out).mono ?_); (case side1 => repeat (first | (with_reducible first | exact HB.out | apply below_alloc | apply pw_below_drewN | apply below_drew1) | exact HB.out)); (case side2 => exact Kd.R_tight rfl HO300.out); rintro e w31 ⟨rfl, hy0, hb, hkp⟩; refine ⟨_, rfl, ?_⟩; have n0_ := Aside0.mk (Kd.R_mono (ok' := fun k_ => some k_ ≠ (.slice Ao27 t292.length co27 : Value).ownBlock ∧ some k_ ≠ (.slice Ao30 t297.length co30 : Value).ownBlock) (Kd.R_keptB (HO291.out) hkp (fun k_ hk_ hs_ => (hk_.2) hs_)) (fun k_ hk_ => ⟨hk_.1.1.2, hk_.1.2⟩)); have n1_ := Aside0.mk (Kd.R_mono (ok' := fun k_ => some k_ ≠ (v290 : Value).ownBlock ∧ some k_ ≠ (.slice Ao30 t297.length co30 : Value).ownBlock) (Kd.R_keptB (HO295.out) hkp (fun k_ hk_ hs_ => (hk_.2) hs_)) (fun k_ hk_ => ⟨hk_.1.1.2, hk_.1.2⟩)); have n2_ := Aside0.mk (Kd.R_reok rfl hy0 (fun k_ e_ => HO300.out.1 k_ e_)); have n3_ := Aside0.mk (hb); clear HO291; clear HO295; clear HO300; clear HB; have HO291 := n0_; have HO295 := n1_; have HO300 := n2_; have HB := n3_; clear n0_ n1_ n2_ n3_; (try clear hb); (try clear hkp); (try clear hy0); obtain ⟨Ao32, co32, eo32⟩ := Kd.R_slice HO291.out; subst eo32) | ((with_reducible refine gate_callee (f := 20) rfl ?_); refine goesL_ (some 43) rfl rfl Tryz.func20 (by kernel_rfl) rfl #[.slice A0 l0.length c0, .slice Ao32 t289.length co32] rfl (by (try simp only [List.map_toArray, List.map_cons, List.map_nil]); first | done | rfl | (simp only [List.length_drop, List.length_take]; rfl)) ?_; (with_reducible refine (redpencilref14_Same.calls k _ _ l0 _ _ t289 false _ ?side1 ?side2 ?side3 ?side4 A13.out).mono ?_); (case side1 => repeat (first | exact (Kd.C_below HR0.out HB.out) | (with_reducible refine Kd.C_alloc ?_ _) | (with_reducible refine Kd.C_drewN ?_ _) | (with_reducible refine Kd.C_drew ?_))); (case side2 => exact HC0.out); (case side3 => repeat (first | exact (Kd.R_reads' HO291.out).2.2 | (with_reducible refine Kd.C_alloc ?_ _) | (with_reducible refine Kd.C_drewN ?_ _) | (with_reducible refine Kd.C_drew ?_))); (case side4 => exact (Kd.R_reads' HO291.out).2.1); rintro e w' ⟨rfl, ⟨nd, rfl⟩⟩; refine ⟨_, rfl, ?_⟩))
    go_ret
    exact ⟨by first | rfl | (simp [errW_none, errW_some] <;> rfl) | (simp [*, errW_none, errW_some] <;> rfl), by repeat (first | (with_reducible first | exact HB.out | apply below_alloc | apply pw_below_drewN | apply below_drew1) | exact HB.out)⟩
  ·
   replace c10 := Bool.eq_false_iff.mpr c10
   subst c10
   have H1 : (some false) = some r := by rw [if_neg (show ¬ (false = true) by decide)] at H; exact H
   clear H
   have H := H1
   clear H1
   obtain rfl := Option.some.inj H
   go_enter Tryz.func4, Tryz.ntmps4
   go_wp2_with (first | ((with_reducible refine gate_callee (f := 11) rfl ?_); refine goesL_ (some 17) rfl rfl Tryz.func11 (by kernel_rfl) rfl #[.slice A0 l0.length c0] rfl (by (try simp only [List.map_toArray, List.map_cons, List.map_nil]); first | done | rfl | (simp only [List.length_drop, List.length_take]; rfl)) ?_; (with_reducible refine (redpencilref14_Copy.calls _ _ l0 t289 _ ?side1 ?side2 A7.out).mono ?_); (case side1 => repeat (first | exact HR0.out | (with_reducible refine Kd.C_alloc ?_ _) | (with_reducible refine Kd.C_drewN ?_ _) | (with_reducible refine Kd.C_drew ?_))); (case side2 => exact HC0.out); rintro e w33 ⟨v290, rfl, ho0, hb⟩; refine ⟨_, rfl, ?_⟩; have n0_ := Aside0.mk (Kd.R_lower ho0 (below_size (by repeat (first | (with_reducible first | exact HB.out | apply below_alloc | apply pw_below_drewN | apply below_drew1) | exact HB.out)))); have n1_ := Aside0.mk (below_step (by repeat (first | (with_reducible first | exact HB.out | apply below_alloc | apply pw_below_drewN | apply below_drew1) | exact HB.out)) hb); clear HB; have HO291 := n0_; have HB := n1_; clear n0_ n1_; (try clear hb); (try clear hb2); (try clear hk); (try clear hi); (try clear ho0)) | ((with_reducible refine gate_callee (f := 17) rfl ?_); refine goesL_ (some 22) rfl rfl Tryz.func17 (by kernel_rfl) rfl #[.slice A0 l0.length c0, .int .i64 a1, .int .i64 a2] rfl (by (try simp only [List.map_toArray, List.map_cons, List.map_nil]); first | done | rfl | (simp only [List.length_drop, List.length_take]; rfl)) ?_; (with_reducible refine (redpencilref15_Delete.calls _ _ l0 a1 a2 t292 t293 _ ?side1 ?side2 A8.out).mono ?_); (case side1 => repeat (first | exact (Kd.C_below HR0.out HB.out) | (with_reducible refine Kd.C_alloc ?_ _) | (with_reducible refine Kd.C_drewN ?_ _) | (with_reducible refine Kd.C_drew ?_))); (case side2 => exact HC0.out); rintro e w34 ⟨v294, rfl, ho0, hb⟩; refine ⟨_, rfl, ?_⟩; have n0_ := Aside0.mk (Kd.R_elder' (by (with_reducible repeat (first | apply Kd.R_alloc | apply Kd.R_drewN | apply Kd.R_drew)); exact HO291.out) (Kd.R_base ho0) hb); have n1_ := Aside0.mk (Kd.R_lower (Kd.R_new' ho0 (Kd.R_lt (by (with_reducible repeat (first | apply Kd.R_alloc | apply Kd.R_drewN | apply Kd.R_drew)); exact HO291.out))) (below_size (by repeat (first | (with_reducible first | exact HB.out | apply below_alloc | apply pw_below_drewN | apply below_drew1) | exact HB.out)))); have n2_ := Aside0.mk (below_step (by repeat (first | (with_reducible first | exact HB.out | apply below_alloc | apply pw_below_drewN | apply below_drew1) | exact HB.out)) hb); clear HO291; clear HB; have HO291 := n0_; have HO295 := n1_; have HB := n2_; clear n0_ n1_ n2_; (try clear hb); (try clear hb2); (try clear hk); (try clear hi); (try clear ho0); obtain ⟨Ao35, co35, eo35⟩ := Kd.R_slice HO295.out; subst eo35) | ((with_reducible refine gate_callee (f := 18) rfl ?_); refine goesL_ (some 30) rfl rfl Tryz.func18 (by kernel_rfl) rfl #[.slice A0 l0.length c0, .int .i64 a1, .int .i64 a2, .slice Ao35 t292.length co35, .int .i64 t293] rfl (by (try simp only [List.map_toArray, List.map_cons, List.map_nil]); first | done | rfl | (simp only [List.length_drop, List.length_take]; rfl)) ?_; (with_reducible refine (redpencillaw15_deletes.calls k _ _ l0 a1 a2 _ _ t292 t293 false _ ?side1 ?side2 ?side3 ?side4 A9.out).mono ?_); (case side1 => repeat (first | exact (Kd.C_below HR0.out HB.out) | (with_reducible refine Kd.C_alloc ?_ _) | (with_reducible refine Kd.C_drewN ?_ _) | (with_reducible refine Kd.C_drew ?_))); (case side2 => exact HC0.out); (case side3 => repeat (first | exact (Kd.R_reads' HO295.out).2.2 | (with_reducible refine Kd.C_alloc ?_ _) | (with_reducible refine Kd.C_drewN ?_ _) | (with_reducible refine Kd.C_drew ?_))); (case side4 => exact (Kd.R_reads' HO295.out).2.1); rintro e w36 ⟨rfl, hb⟩; refine ⟨_, rfl, ?_⟩; have n0_ := Aside0.mk (Kd.R_below (by (with_reducible repeat (first | apply Kd.R_alloc | apply Kd.R_drewN | apply Kd.R_drew)); exact HO291.out) hb); have n1_ := Aside0.mk (Kd.R_below (by (with_reducible repeat (first | apply Kd.R_alloc | apply Kd.R_drewN | apply Kd.R_drew)); exact HO295.out) hb); have n2_ := Aside0.mk (below_step (by repeat (first | (with_reducible first | exact HB.out | apply below_alloc | apply pw_below_drewN | apply below_drew1) | exact HB.out)) hb); clear HO291; clear HO295; clear HB; have HO291 := n0_; have HO295 := n1_; have HB := n2_; clear n0_ n1_ n2_; (try clear hb); (try clear hb2); (try clear hk); (try clear hi)))
   go_ret
   exact ⟨by first | rfl | (simp [errW_none, errW_some] <;> rfl) | (simp [*, errW_none, errW_some] <;> rfl), by repeat (first | (with_reducible first | exact HB.out | apply below_alloc | apply pw_below_drewN | apply below_drew1) | exact HB.out)⟩
end Go.Proofs.YtmbndijbpgobeaaGreat.PWalk
end
section
namespace Go.Proofs.YtmbndijbpgobeaaGreat.PWalk
open Go.RowKit Go.Proofs.YtmbndijbpgobeaaGreatW.PrintWords Go.Proofs.YtmbndijbpgobeaaGreatW.PrintLast Go.Proofs.YtmbndijbpgobeaaGreatW.PrintMore
set_option linter.unusedVariables false
set_option linter.unusedSimpArgs false
open Go.Shelf
attribute [local go_sem] Oper.semAt_some
theorem inc_ext : ∀ {a b : List Node}, Inc a → Inc b → (∀ z, z ∈ a ↔ z ∈ b) → a = b
 | [], [], _, _, _ => rfl
 | [], y :: b, _, _, h => absurd ((h y).2 (List.mem_cons_self ..)) (by simp)
 | x :: a, [], _, _, h => absurd ((h x).1 (List.mem_cons_self ..)) (by simp)
 | x :: a, y :: b, ha, hb, h => by
  obtain ⟨ha1, ha2⟩ := List.pairwise_cons.1 ha
  obtain ⟨hb1, hb2⟩ := List.pairwise_cons.1 hb
  have e : x = y := by
   rcases List.mem_cons.1 ((h x).1 (List.mem_cons_self ..)) with e | hx
   ·
    exact e
   ·
    rcases List.mem_cons.1 ((h y).2 (List.mem_cons_self ..)) with e | hy
    ·
     exact e.symm
    ·
     have := dotLt_asymm (ha1 y hy)
     rw [hb1 x hx] at this
     cases this
  subst e
  rw [inc_ext ha2 hb2 fun z => ⟨fun hz => ?_, fun hz => ?_⟩]
  ·
   rcases List.mem_cons.1 ((h z).1 (List.mem_cons_of_mem _ hz)) with e | hz2
   ·
    have := ha1 z hz
    rw [e, dotLt_irrefl] at this
    cases this
   ·
    exact hz2
  ·
   rcases List.mem_cons.1 ((h z).2 (List.mem_cons_of_mem _ hz)) with e | hz2
   ·
    have := hb1 z hz
    rw [e, dotLt_irrefl] at this
    cases this
   ·
    exact hz2
theorem insP_cons (y x : Node) (o : List Node) : insP y (x :: o) = if dotLt x.f0 y.f0 = true then x :: insP y o else y :: x :: o := by
 unfold insP
 by_cases h : dotLt x.f0 y.f0 = true
 ·
  rw [if_pos h, List.takeWhile_cons, List.dropWhile_cons, if_pos h, if_pos h]; rfl
 ·
  rw [if_neg h, List.takeWhile_cons, List.dropWhile_cons, if_neg h, if_neg h]; rfl
theorem insP_mem {y z : Node} : ∀ {o : List Node}, z ∈ insP y o ↔ z = y ∨ z ∈ o
 | [] => by simp [insP]
 | x :: o => by
  rw [insP_cons]
  by_cases h : dotLt x.f0 y.f0 = true
  ·
   rw [if_pos h, List.mem_cons, insP_mem, List.mem_cons]
   constructor
   ·
    rintro (h | h | h)
    ·
     exact .inr (.inl h)
    ·
     exact .inl h
    ·
     exact .inr (.inr h)
   ·
    rintro (h | h | h)
    ·
     exact .inr (.inl h)
    ·
     exact .inl h
    ·
     exact .inr (.inr h)
  ·
   rw [if_neg h, List.mem_cons]
theorem insP_inc {y : Node} : ∀ {o : List Node}, Inc o → (∀ z ∈ o, z.f0 ≠ y.f0) → Inc (insP y o)
 | [], _, _ => List.pairwise_singleton _ _
 | x :: o, ho, hn => by
  obtain ⟨h1, h2⟩ := List.pairwise_cons.1 ho
  rw [insP_cons]
  by_cases h : dotLt x.f0 y.f0 = true
  ·
   rw [if_pos h]
   refine List.pairwise_cons.2 ⟨fun z hz => ?_, insP_inc h2 fun z hz => hn z (List.mem_cons_of_mem _ hz)⟩
   rcases insP_mem.1 hz with rfl | hz
   ·
    exact h
   ·
    exact h1 z hz
  ·
   rw [if_neg h]
   have hxy : dotLt y.f0 x.f0 = true := by
    cases hc : dotLt y.f0 x.f0 with
    | true => rfl
    | false => exact absurd (dotLt_total (Bool.eq_false_iff.2 h) hc) (hn x (List.mem_cons_self ..))
   refine List.pairwise_cons.2 ⟨fun z hz => ?_, ho⟩
   rcases List.mem_cons.1 hz with rfl | hz
   ·
    exact hxy
   ·
    exact dotLt_trans hxy (h1 z hz)
/-- Nodes of different dots, none of which a list has, put into it. -/
theorem joinJ_new : ∀ {ys o : List Node}, Inc o → (ys.map (·.f0)).Nodup → (∀ y ∈ ys, ∀ z ∈ o, z.f0 ≠ y.f0) → Inc (joinJ o ys) ∧ ∀ z, z ∈ joinJ o ys ↔ z ∈ o ∨ z ∈ ys
 | [], o, ho, _, _ => ⟨ho, fun z => by simp [joinJ]⟩
 | y :: ys, o, ho, hn, hd => by
  rw [List.map_cons, List.nodup_cons] at hn
  have e : stepJ o y = insP y o := by
   unfold stepJ
   rw [findIdx_none fun z hz => hd y (List.mem_cons_self ..) z hz]
  obtain ⟨h1, h2⟩ := joinJ_new (ys := ys) (insP_inc ho fun z hz => hd y (List.mem_cons_self ..) z hz) hn.2 (fun u hu z hz => by
   rcases insP_mem.1 hz with rfl | hz
   ·
    intro e
    exact hn.1 (List.mem_map.2 ⟨u, hu, e.symm⟩)
   ·
    exact hd u (List.mem_cons_of_mem _ hu) z hz)
  show Inc (joinJ (stepJ o y) ys) ∧ ∀ z, z ∈ joinJ (stepJ o y) ys ↔ _
  rw [e]
  refine ⟨h1, fun z => ?_⟩
  rw [h2, insP_mem, List.mem_cons]
  constructor
  ·
   rintro ((h | h) | h)
   ·
    exact .inr (.inl h)
   ·
    exact .inl h
   ·
    exact .inr (.inr h)
  ·
   rintro (h | h | h)
   ·
    exact .inl (.inr h)
   ·
    exact .inl (.inl h)
   ·
    exact .inr h
theorem dead_dots (l : List Node) : (l.map deadN).map (·.f0) = l.map (·.f0) := by
 rw [List.map_map]
 rfl
/-- What is deleted, one after the other, and at once. -/
theorem gone_is {l : List Node} (hs : storeOk l = true) (a n : Int) : joinJ [] ((cutV l a n).map deadN) = (l.filter fun x => decide (x.f0 ∈ (cutV l a n).map (·.f0))).map deadN := by
 have hi := store_inc hs
 obtain ⟨h1, h2⟩ := joinJ_new (ys := (cutV l a n).map deadN) (o := []) List.Pairwise.nil (by rw [dead_dots]; exact cut_nodup hs a n) (fun y _ z hz => by cases hz)
 have hsub : ∀ x ∈ cutV l a n, x ∈ l := fun x hx => (mem_vis hs ((cut_sub l a n).subset hx)).1
 refine inc_ext h1 ?_ fun z => ?_
 ·
  exact List.pairwise_map.2 ((hi.sublist List.filter_sublist).imp fun h => h)
 ·
  rw [h2, List.mem_map, List.mem_map]
  constructor
  ·
   rintro (h | ⟨x, hx, rfl⟩)
   ·
    cases h
   ·
    exact ⟨x, List.mem_filter.2 ⟨hsub x hx, decide_eq_true (List.mem_map.2 ⟨x, hx, rfl⟩)⟩, rfl⟩
  ·
   rintro ⟨x, hx, rfl⟩
   obtain ⟨hx1, hx2⟩ := List.mem_filter.1 hx
   obtain ⟨y, hy, e⟩ := List.mem_map.1 (of_decide_eq_true hx2)
   obtain ⟨i, hi1⟩ := List.getElem?_of_mem hx1
   obtain ⟨j, hj⟩ := List.getElem?_of_mem (hsub y hy)
   have := inc_unique hi hi1 hj e.symm
   subst this
   rw [hi1] at hj
   cases hj
   exact .inr ⟨x, hy, rfl⟩
theorem del_err {l : List Node} {a n : Int} : errE l ⟨1, 1⟩ a n [] = if spanE l a n ≠ 0 then spanE l a n else if n > 10000 then 5 else 0 := by
 have hd : dotOk ⟨1, 1⟩ = true := by decide
 by_cases hw : wellB l = true
 ·
  by_cases h1 : spanE l a n = 0
  ·
   rw [if_neg (by rw [h1]; simp)]
   by_cases h2 : n > 10000
   ·
    rw [if_pos h2]
    exact err5 hw hd h1 (.inl h2)
   ·
    rw [if_neg h2]
    have hs : storeOk l = true := well_store (List.isEmpty_iff.1 hw)
    have hl := last_le hs
    refine err0 hw hd h1 h2 (by simp) (fun r hr => by cases hr) (by simp) ?_
    unfold lateE
    rw [if_pos hs]
    simp only [List.length_nil]
    omega
  ·
   rw [if_pos h1]
   exact err3 hw hd h1
 ·
  have h2 : spanE l a n = 2 := by
   unfold spanE
   rw [if_neg fun h => hw (List.isEmpty_iff.2 h)]
  rw [h2, if_pos (by decide)]
  exact err2 (.inl (Bool.eq_false_iff.2 hw))
theorem del_is {l : List Node} (a n : Int) : replJ l ⟨1, 1⟩ a n [] = delE l a n := by
 unfold replJ delE
 rw [del_err]
 by_cases h1 : spanE l a n = 0
 ·
  rw [if_neg (show ¬ spanE l a n ≠ 0 from fun h => h h1), if_neg (show ¬ spanE l a n ≠ 0 from fun h => h h1)]
  by_cases h2 : n > 10000
  ·
   rw [if_pos h2, if_pos h2]; rfl
  ·
   rw [if_neg h2, if_neg h2, if_neg (by decide), if_neg (show ¬ busyE l ⟨1, 1⟩ ([] : List Int).length = true by simp [busyE])]
   have hs : storeOk l = true := by
    unfold spanE at h1
    by_cases h : faultsOf l = []
    ·
     exact well_store h
    ·
     rw [if_neg h] at h1; cases h1
   rw [gone_is hs]
   rfl
 ·
  rw [if_pos h1, if_pos h1, if_pos h1]
theorem stain_from : ∀ (q k i : Nat) (l : List Node), l.length ≤ 1000000 → i + q = l.length → q < k → ∃ r, redpencilref14_Stain.l0 k l (i : Int) = some r := by
 intro q
 induction q with
 | zero =>
  intro k i l hl hi hk
  obtain ⟨k, rfl⟩ : ∃ m, k = m + 1 := ⟨k - 1, by omega⟩
  simp only [redpencilref14_Stain.l0]
  rw [if_neg (by omega)]
  exact ⟨_, rfl⟩
 | succ q ih =>
  intro k i l hl hi hk
  obtain ⟨k, rfl⟩ : ∃ m, k = m + 1 := ⟨k - 1, by omega⟩
  have hlt : i < l.length := by omega
  simp only [redpencilref14_Stain.l0]
  rw [if_pos (by omega), if_pos (by omega), Option.bind_some, wrap_succ hlt hl]
  exact ih k (i + 1) _ (by simp; omega) (by simp; omega) (by omega)
theorem stain_is (l : List Node) (hl : l.length ≤ 1000000) {k : Nat} (hk : l.length < k) : ∃ r, redpencilref14_Stain.f k l = some r := stain_from l.length k 0 l hl (by omega) hk
theorem del_le (l : List Node) (a n : Int) : (delE l a n).1.length ≤ l.length := by
 unfold delE
 split
 ·
  exact Nat.zero_le _
 ·
  split
  ·
   exact Nat.zero_le _
  ·
   rw [List.length_map]; exact List.length_filter_le _ _
end Go.Proofs.YtmbndijbpgobeaaGreat.PWalk
end
section
namespace Go.Proofs.YtmbndijbpgobeaaGreat.PWalk
open Go.RowKit Go.Proofs.YtmbndijbpgobeaaGreatW.PrintWords Go.Proofs.YtmbndijbpgobeaaGreatW.PrintLast Go.Proofs.YtmbndijbpgobeaaGreatW.PrintMore
set_option linter.unusedVariables false
set_option linter.unusedSimpArgs false
open Go.Shelf
attribute [local go_sem] Oper.semAt_some
theorem deletes_is (l : List Node) (a n : Int) : redpencillaw15_EditDeletes.f 1000 l a n = some true := by
 unfold redpencillaw15_EditDeletes.f
 by_cases hl : l.length > 40
 ·
  rw [if_pos (by omega)]; rfl
 ·
  have hd := del_le l a n
  obtain ⟨r, hr⟩ := stain_is (delE l a n).1 (by omega) (k := 1000) (by omega)
  rw [if_neg (by omega)]
  unfold redpencilref14_Copy.f redpencilref15_Delete.f redpencilref15_Replace.f redpencillaw15_deletes.f edit_Delete.f
  rw [if_pos (by omega), Option.bind_some, if_pos ⟨by omega, by simp⟩, Option.bind_some, Option.bind_some, if_pos (by omega), Option.bind_some, del_is]
  dsimp only
  rw [jsame_is _ (by omega) (by omega), Option.bind_some, if_pos rfl, Option.bind_some, if_pos (by simp), Option.bind_some, hr, Option.bind_some, jsame_is _ (by omega) (by omega), Option.bind_some, if_pos rfl]
  rfl
theorem EditDeletes.walk (A0 : Option Addr) (c0 : Nat) (l0 : List Node) (w : World) (hr0 : Kd.C k53 w A0 l0.length l0) (hc0 : l0.length ≤ c0) (hi0 : ∀ x ∈ l0, runeIn x.f3) (a1 : Int) (w1 : (Lit.int .i64 a1).wf = true) (a2 : Int) (w2 : (Lit.int .i64 a2).wf = true) :
  Calls Tryz.prog 4 #[.slice A0 l0.length c0, .int .i64 a1, .int .i64 a2] w fun e w' => e = .returned (.bool true) ∧ Below w.heap.size w w' :=
 redpencillaw15_EditDeletes.calls 1000 A0 c0 l0 a1 a2 true w hr0 hc0 (deletes_is l0 a1 a2)
end Go.Proofs.YtmbndijbpgobeaaGreat.PWalk
end
