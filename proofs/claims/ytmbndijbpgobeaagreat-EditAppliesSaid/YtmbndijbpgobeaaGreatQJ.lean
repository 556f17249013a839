/-
  The law EditApplies of layer 15 holds for all states and deltas. Part 10 of 11.
-/
import Derived.Test.YtmbndijbpgobeaaGreatQI
section
namespace Go.Proofs.YtmbndijbpgobeaaGreat.PWalk
open Go.RowKit Go.Proofs.YtmbndijbpgobeaaGreatW.PrintWords Go.Proofs.YtmbndijbpgobeaaGreatW.PrintLast Go.Proofs.YtmbndijbpgobeaaGreatW.PrintMore
set_option linter.unusedVariables false
set_option linter.unusedSimpArgs false
open Go.Shelf
attribute [local go_sem] Oper.semAt_some
theorem op_putNode {o : Oper} {a : Act} {K : Act → World → Prop} {Q : Exit → Act → World → Prop} (s x : Operand) (ho : o.op = .store 53 s x) (hd : o.dst = none) {w : World} {base g n cap i : Nat} {l : List Node} (y : Node)
  (h : Kd.R k53 53 w base (fun _ => True) (.slice (some ⟨g, 0, none⟩) n cap) l) (hi : i < n) (hs : a.eval s = .pointer (some ⟨g, i * 6, none⟩)) (hx : a.eval x = vNode y)
  (hk : ∀ w', Kd.R k53 53 w' base (fun _ => True) (.slice (some ⟨g, 0, none⟩) n cap) (l.set i y) → w.grownBy w' (some g) → K a w') : o.wp Tryz.prog a w K Q := by
 obtain ⟨w', h1, h2, h3⟩ := row_put y h hi
 unfold Oper.wp execOp
 simp only [ho, hs, hx, Instr.storeAt, Instr.sureAddr, Sem.run_bind, Sem.run_pure, Result.andThen_ok, h1]
 show K (a.put o.dst undef) w'
 rw [hd]
 exact hk w' h2 h3
theorem jfind_from (l : List Node) (hl : l.length ≤ 1000000) (d : Dot) : ∀ (q k i : Nat), i + q = l.length → q < k → redpencilref14_Find.l0 k l (i : Int) d.f0 d.f1 = some (match (l.drop i).findIdx? (dotIs d) with | some j => ((i + j : Nat) : Int) | none => -1) := by
 intro q
 induction q with
 | zero =>
  intro k i hi hk
  obtain ⟨k, rfl⟩ : ∃ m, k = m + 1 := ⟨k - 1, by omega⟩
  simp only [redpencilref14_Find.l0]
  rw [if_neg (by omega), List.drop_of_length_le (by omega)]
  rfl
 | succ q ih =>
  intro k i hi hk
  obtain ⟨k, rfl⟩ : ∃ m, k = m + 1 := ⟨k - 1, by omega⟩
  have hlt : i < l.length := by omega
  simp only [redpencilref14_Find.l0]
  rw [if_pos (by omega), if_pos (by omega), rdN hlt, wrap_succ hlt hl, List.drop_eq_getElem_cons hlt, List.findIdx?_cons]
  change (if dotIs d l[i] = true then _ else _) = _
  by_cases e : dotIs d l[i] = true
  ·
   rw [if_pos e, if_pos e]
   simp
  ·
   rw [if_neg e, if_neg e, ih k (i + 1) (by omega) (by omega)]
   cases (l.drop (i + 1)).findIdx? (dotIs d) with
   | none => rfl
   | some j =>
    show some (((i + 1 + j : Nat)) : Int) = some (((i + (j + 1) : Nat)) : Int)
    rw [show i + 1 + j = i + (j + 1) by omega]
theorem jfind_is (l : List Node) (hl : l.length ≤ 1000000) (d : Dot) {k : Nat} (hk : l.length < k) : redpencilref14_Find.f k l d.f0 d.f1 = some (idxFrom (dotIs d) l) := by
 have := jfind_from l hl d l.length k 0 (by omega) hk
 unfold redpencilref14_Find.f idxFrom
 rw [show ((0 : Nat) : Int) = 0 from rfl] at this
 rw [this, List.drop_zero]
 cases l.findIdx? (dotIs d) with
 | none => rfl
 | some j => simp
def stepJ (o : List Node) (y : Node) : List Node := match o.findIdx? (dotIs y.f0) with | some k => o.set k (mergeJ (o.getD k nodeZ) y) | none => insP y o
/-- The reference's join. -/
def joinJ (a b : List Node) : List Node := b.foldl stepJ a
def redpencilref14_Join.f (l0 l1 : List Node) : Option (List Node) := if l0.length + l1.length ≤ 200000 then some (joinJ l0 l1) else none
theorem joinJ_succ {a b : List Node} {k : Nat} {y : Node} (h : b[k]? = some y) : joinJ a (b.take (k + 1)) = stepJ (joinJ a (b.take k)) y := by
 obtain ⟨hk, e⟩ := List.getElem?_eq_some_iff.1 h
 unfold joinJ
 rw [List.take_succ_eq_append_getElem hk, List.foldl_append, e]
 rfl
theorem insP_length (x : Node) (l : List Node) : (insP x l).length = l.length + 1 := by
 unfold insP
 have := congrArg List.length (List.takeWhile_append_dropWhile (p := fun y : Node => dotLt y.f0 x.f0) (l := l))
 rw [List.length_append] at this
 rw [List.length_append, List.length_append, List.length_singleton]
 omega
/-- What has come up where a node is merged. -/
structure JJ (w : World) (o : List Node) (k : Nat) (z : Node) (v : Value) (l5 l15 : Bool) (V : World) : Prop where
 ord : l15 = true → l5 = true
 below : Below w.heap.size w V
 r1 : l15 = false → RN V w.heap.size v o
 r2 : l15 = true → RN V w.heap.size v (o.set k z)
def jj7Inv (W0 : World) (ad : Addr) (go no co nb c1 k p : Nat) (x y : Node) (o : List Node) (z0 z2 z3 z4 z8 z9 z10 z11 z12 z13 z14 z15 z16 z17 z18 z19 z20 z21 z22 z23 z24 z25 z26 z27 z28 z29 z30 z31 z32 z33 z34 z35 z36 z37 z38 z39 z40 z41 z42 z43 z44 z45 z46 : Value) (L : Array Bool) (ac : Act) (V : World) : Prop := ∃ (l0 l1 l2 l3 l4 l5 l6 l7 l8 l9 l10 l11 l12 l13 l14 l15 : Bool), L = #[l0, l1, l2, l3, l4, l5, l6, l7, l8, l9, l10, l11, l12, l13, l14, l15] ∧ ac = { tmps := #[z0, .slice (some ad) nb c1, z2, z3, z4, .slice (some ⟨go, 0, none⟩) no co, .int .i64 (k : Int), .int .i64 (p : Int), z8, z9, z10, z11, z12, z13, z14, z15, z16, z17, z18, z19, z20, z21, z22, z23, z24, selv l11 (.tuple #[vNode (mergeJ x y), .bool (agreeJ x y)]) (z25), selv l0 (.slice (some ⟨go, 0, none⟩) no co) (z26), selv l1 (.int .i64 (p : Int)) (z27), selv l2 (.slice (some ⟨go, 0, none⟩) no co) (z28), selv l3 (.int .i64 (p : Int)) (z29), selv l4 (.pointer (some ⟨go, p * 6, none⟩)) (z30), selv l5 (vNode x) (z31), selv l6 (.slice (some ad) nb c1) (z32), selv l7 (.int .i64 (k : Int)) (z33), selv l8 (.pointer (some (ad.add (k * 6)))) (z34), selv l9 (vNode y) (z35), selv l10 (.tuple #[vNode (mergeJ x y), .bool (agreeJ x y)]) (z36), selv l12 (vNode (mergeJ x y)) (z37), selv l13 (.bool (agreeJ x y)) (z38), selv l14 (.pointer (some ⟨go, p * 6, none⟩)) (z39), z40, z41, z42, z43, z44, z45, z46], defers := [] } ∧ Aside0 (JJ W0 o p (mergeJ x y) (.slice (some ⟨go, 0, none⟩) no co) l5 l15 V)
set_option maxHeartbeats 4000000 in
set_option maxRecDepth 100000 in
theorem redpencilref14_Join.calls (A0 : Option Addr) (c0 : Nat) (l0 : List Node) (A1 : Option Addr) (c1 : Nat) (l1 : List Node) (r : List Node) (w : World) (hr0 : Kd.C k53 w A0 l0.length l0) (hc0 : l0.length ≤ c0) (hr1 : Kd.C k53 w A1 l1.length l1) (hc1 : l1.length ≤ c1) (h : redpencilref14_Join.f l0 l1 = some r) :
  Calls Tryz.prog 28 #[.slice A0 l0.length c0, .slice A1 l1.length c1] w fun e w' => ∃ v0_ : Value, e = .returned v0_ ∧ Kd.R k53 53 w' w.heap.size (fun _ => True) v0_ r ∧ Below w.heap.size w w' := by
 unfold redpencilref14_Join.f at h
 by_cases hl : l0.length + l1.length ≤ 200000
 rotate_left
 ·
  rw [if_neg hl] at h; cases h
 rw [if_pos hl] at h
 obtain rfl := Option.some.inj h
 have HL := Aside0.mk hl
 have HR := Aside0.mk hr0
 have HR1 := Aside0.mk hr1
 obtain ⟨na, Ha⟩ : ∃ n, Aside0 (l0.length = n) := ⟨_, ⟨rfl⟩⟩
 obtain ⟨nb, Hb⟩ : ∃ n, Aside0 (l1.length = n) := ⟨_, ⟨rfl⟩⟩
 rw [Ha.out, Hb.out] at HL
 rw [Ha.out] at HR
 rw [Hb.out] at HR1
 rw [Ha.out, Hb.out]
 have hu := Tryz.underlying53
 have hu2 := Tryz.underlying25
 clear h hl hr0 hr1 hc0 hc1
 go_enter Tryz.func28, Tryz.ntmps28
 go_wp2_with (at_builtin; refine app_rows Tryz.underlying23 w.heap.size rfl (.const (.slice none 0 0)) (.tmp 8) rfl (.slice none 0 0) [] l0 A0 na c0 rfl rfl (Kd.R_nil _ _ _ _ _) HR.out (Nat.le_refl _) (by have := HL.out; simp only [List.length_nil]; omega) ?_; intro v1 W1 hr1 hg1)
 rw [List.nil_append] at hr1
 obtain ⟨A5, c5, rfl⟩ := RN.slice hr1
 rw [Ha.out] at hr1 ⊢
 have HO0 := Aside0.mk hr1
 have HB0 := Aside0.mk (grown_nil hg1)
 clear hr1 hg1
 go_loopw [5, 6] (fun s i wr => ∃ (k : Nat) (Ao : Option Addr) (no co : Nat), s = .slice Ao no co ∧ i = .int .i64 k ∧ k ≤ nb ∧ Aside0 (RN wr w.heap.size (.slice Ao no co) (joinJ l0 (l1.take k))) ∧ Aside0 (no ≤ na + k) ∧ Aside0 (Below w.heap.size w wr)) (fun _ i _ => nb - (intOf i).toNat)
 case atStart => exact ⟨0, A5, na, c5, rfl, rfl, Nat.zero_le _, HO0, ⟨Nat.le_refl _⟩, HB0⟩
 case round =>
  obtain ⟨k, Ao, no, co, rfl, rfl, hk, HO, HNO, HB⟩ := hrel
  clear HO0 HB0
  by_cases hlt : k < nb
  ·
   obtain ⟨y, Hy⟩ : ∃ y, Aside0 (l1[k]? = some y) := ⟨_, ⟨List.getElem?_eq_getElem (by rw [Hb.out]; exact hlt)⟩⟩
   have HST := Aside0.mk (joinJ_succ (a := l0) Hy.out)
   obtain ⟨o, Ho⟩ : ∃ o, Aside0 (joinJ l0 (l1.take k) = o) := ⟨_, ⟨rfl⟩⟩
   rw [Ho.out] at HO HST
   have HK : Aside0 (k < nb ∧ na + nb ≤ 200000) := ⟨hlt, HL.out⟩
   have HOL : Aside0 (o.length = no) := ⟨(RN.C HO.out).1⟩
   obtain ⟨q, Hq⟩ : ∃ q, Aside0 (idxFrom (dotIs y.f0) o = q) := ⟨_, ⟨rfl⟩⟩
   have HFD := Aside0.mk (redpencilref14_Find.calls (no + 1) Ao co o y.f0.f0 y.f0.f1 q wr (by rw [HOL.out]; exact (RN.C HO.out).2.2) (by rw [HOL.out]; exact (RN.C HO.out).2.1) (by rw [jfind_is o (by have := HOL.out; have := HNO.out; have := HK.out; omega) y.f0 (by rw [HOL.out]; omega), Hq.out]))
   rw [HOL.out] at HFD
   obtain ⟨ad, e, y0, y1, y2, y3, y4, y5⟩ := node_at HR1.out HB.out k y Hy.out
   subst e
   have hkk := HK.out
   go_wp2_with fail
   clear y0 y1 y2 y3 y4 y5
   refine HFD.out.mono ?_
   rintro e V1 ⟨rfl, hb⟩
   have HO := Aside0.mk (RN.below' HO.out hb)
   have HB := Aside0.mk (below_more HB.out hb)
   clear hb HFD
   cases hf : o.findIdx? (dotIs y.f0) with
   | none =>
    have hq : q = -1 := by rw [← Hq.out]; unfold idxFrom; rw [hf]
    subst hq
    have HSJ : Aside0 (stepJ o y = insP y o) := ⟨by unfold stepJ; rw [hf]⟩
    clear hf
    have HPC := Aside0.mk (put_call Ao no co o y V1 (RN.C HO.out).2.2 (RN.C HO.out).2.1 (by have := HNO.out; have := HK.out; omega))
    obtain ⟨ad', e, y0, y1, y2, y3, y4, y5⟩ := node_at HR1.out HB.out k y Hy.out
    cases e
    go_wp2_with fail
    clear y0 y1 y2 y3 y4 y5
    refine HPC.out.mono ?_
    rintro e V2 ⟨v2, rfl, hr2, hb⟩
    have HO := Aside0.mk (Kd.R_lower hr2 HB.out.size)
    have HB := Aside0.mk (below_more HB.out hb)
    obtain ⟨A3, c3, rfl⟩ := RN.slice HO.out
    have HL3 : Aside0 ((insP y o).length = no + 1) := ⟨by rw [insP_length, HOL.out]⟩
    rw [HL3.out] at HO ⊢
    rw [← HSJ.out, ← HST.out] at HO
    have hkk := HK.out
    clear hr2 hb HPC
    go_wp2
    go_roundw
    case rel => exact ⟨k + 1, A3, no + 1, c3, rfl, by go_num, by omega, HO, ⟨by have := HNO.out; omega⟩, HB⟩
    case measure => simp [intOf]; omega
   | some p =>
    have hq : q = (p : Int) := by rw [← Hq.out]; unfold idxFrom; rw [hf]
    subst hq
    have hp : p < no := by rw [← HOL.out]; exact (List.findIdx?_eq_some_iff_getElem.1 hf).1
    obtain ⟨x, Hx⟩ : ∃ x, Aside0 (o[p]? = some x) := ⟨_, ⟨List.getElem?_eq_getElem (by rw [HOL.out]; exact hp)⟩⟩
    have HSJ : Aside0 (stepJ o y = o.set p (mergeJ x y)) := ⟨by unfold stepJ; rw [hf]; simp [List.getD, Hx.out]⟩
    have HPN : Aside0 (p < no ∧ no ≤ 200000) := ⟨hp, by have := HNO.out; have := HK.out; omega⟩
    obtain ⟨go, c9, e9, _⟩ := Kd.R_form HO.out (by rw [HOL.out]; omega)
    rw [HOL.out] at e9
    cases e9
    clear hf
    have HGO : Aside0 (w.heap.size ≤ go) := ⟨Kd.R_base HO.out go (by simp [Value.ownBlock])⟩
    have gq : decide ((p : Int) ≥ 0) = true := decide_eq_true (by omega)
    go_wp2_with fail
    clear gq
    refine AnyOrder.wp_region (by kernel_rfl) (jj7Inv w ad go no co nb c1 k p x y o _ _ _ _ _ _ _ _ _ _ _ _ _ _ _ _ _ _ _ _ _ _ _ _ _ _ _ _ _ _ _ _ _ _ _ _ _ _ _ _ _ _ _) ⟨false, false, false, false, false, false, false, false, false, false, false, false, false, false, false, false, rfl, rfl, ⟨⟨fun h => (by cases h), below_more HB.out (below_drew1 (Below.refl _ V1)), fun _ => RN.below' HO.out (below_drew1 (Below.refl _ V1)), fun h => (by cases h)⟩⟩⟩ ?step ?last
    case step =>
     rintro L ac V i ⟨l0, l1, l2, l3, l4, l5, l6, l7, l8, l9, l10, l11, l12, l13, l14, l15, rfl, rfl, HF⟩ hi K hK
     rcases AnyOrder.up hi [0, 1, 2, 3, 6, 7, 11, 12, 13, 4, 14, 5, 8, 9, 10, 15] rfl with rfl | rfl | rfl | rfl | rfl | rfl | rfl | rfl | rfl | rfl | rfl | rfl | rfl | rfl | rfl | rfl
     all_goals
      replace hi := AnyOrder.first hi rfl
      repeat (obtain ⟨ha, hi⟩ := hi; first | obtain rfl := ha | clear ha)
      clear hi
      try simp only [sel_true, selv_true] at hK ⊢
     iterate 9
      ·
       refine AnyOrder.wpOp_go rfl (by rfl) ?_
       go_wp2_with fail
       exact ⟨_, _, _, _, _, _, _, _, _, _, _, _, _, _, _, _, rfl, rfl, HF⟩
     iterate 2
      ·
       have hpp := HPN.out
       refine AnyOrder.wpOp_go rfl (by rfl) ?_
       go_wp2_with fail
       exact ⟨_, _, _, _, _, _, _, _, _, _, _, _, _, _, _, _, rfl, rfl, HF⟩
     ·
      obtain rfl : l15 = false := by cases l15 with | false => rfl | true => cases HF.out.ord rfl
      (try simp only [selv_false] at hK ⊢)
      obtain ⟨a', e, q0, q1, q2, q3, q4, q5⟩ := node_at (RN.C (HF.out.r1 rfl)).2.2 (Below.refl _ V) p x Hx.out
      cases e
      rw [add_lit, Nat.zero_add] at q0 q1 q2 q3 q4 q5
      refine AnyOrder.wpOp_go rfl (by rfl) ?_
      go_wp2_with fail
      exact ⟨_, _, _, _, _, _, _, _, _, _, _, _, _, _, _, _, rfl, rfl, ⟨⟨fun _ => rfl, HF.out.below, HF.out.r1, HF.out.r2⟩⟩⟩
     ·
      have hkk := HK.out
      refine AnyOrder.wpOp_go rfl (by rfl) ?_
      go_wp2_with fail
      exact ⟨_, _, _, _, _, _, _, _, _, _, _, _, _, _, _, _, rfl, rfl, HF⟩
     ·
      obtain ⟨a', e, q0, q1, q2, q3, q4, q5⟩ := node_at HR1.out HF.out.below k y Hy.out
      cases e
      refine AnyOrder.wpOp_go rfl (by rfl) ?_
      go_wp2_with fail
      exact ⟨_, _, _, _, _, _, _, _, _, _, _, _, _, _, _, _, rfl, rfl, HF⟩
     ·
      refine AnyOrder.wpOp_go rfl (by rfl) ?_
      go_wp2_with fail
      refine (merge14_call x y V).mono ?_
      rintro e V' ⟨rfl, hb⟩
      exact hK _ _ ⟨_, _, _, _, _, _, _, _, _, _, _, _, _, _, _, _, rfl, rfl, ⟨⟨HF.out.ord, below_more HF.out.below hb, fun h => RN.below' (HF.out.r1 h) hb, fun h => RN.below' (HF.out.r2 h) hb⟩⟩⟩
     ·
      refine AnyOrder.wpOp_go rfl (by rfl) ?_
      refine op_putNode (.tmp 39) (.tmp 37) rfl rfl (mergeJ x y) (HF.out.r1 rfl) HPN.out.1 rfl rfl ?_
      intro W4 h1 h2
      exact hK _ _ ⟨_, _, _, _, _, _, _, _, _, _, _, _, _, _, _, _, rfl, rfl, ⟨⟨fun _ => rfl, HF.out.below.grown h2 HF.out.below.size (fun q e => by cases e; exact HGO.out), fun h => (by cases h), fun _ => h1⟩⟩⟩
    case last =>
     rintro L ac V ⟨l0, l1, l2, l3, l4, l5, l6, l7, l8, l9, l10, l11, l12, l13, l14, l15, rfl, rfl, HF⟩ hr
     obtain ⟨rfl, rfl, rfl, rfl, rfl, rfl, rfl, rfl, rfl, rfl, rfl, rfl, rfl, rfl, rfl, rfl, -⟩ := AnyOrder.alls rfl (by kernel_rfl) hr
     clear hr
     simp only [sel_true, selv_true]
     have HO := Aside0.mk (HF.out.r2 rfl)
     have HB := Aside0.mk HF.out.below
     rw [← HSJ.out, ← HST.out] at HO
     have hkk := HK.out
     clear HF
     go_wp2
     go_roundw
     case rel => exact ⟨k + 1, _, no, _, rfl, by go_num, by omega, HO, ⟨by have := HNO.out; omega⟩, HB⟩
     case measure => simp [intOf]; omega
  ·
   obtain rfl : k = nb := by omega
   rw [List.take_of_length_le (Nat.le_of_eq Hb.out)] at HO
   go_wp2
   go_ret
   exact ⟨_, rfl, HO.out, HB.out⟩
end Go.Proofs.YtmbndijbpgobeaaGreat.PWalk
end
section
namespace Go.Proofs.YtmbndijbpgobeaaGreat.PWalk
open Go.RowKit Go.Proofs.YtmbndijbpgobeaaGreatW.PrintWords Go.Proofs.YtmbndijbpgobeaaGreatW.PrintLast Go.Proofs.YtmbndijbpgobeaaGreatW.PrintMore
set_option linter.unusedVariables false
set_option linter.unusedSimpArgs false
open Go.Shelf
attribute [local go_sem] Oper.semAt_some
def agreeL (a b : List Node) : Bool := a.all fun x => match b.findIdx? (dotIs x.f0) with | some p => agreeJ x (b.getD p nodeZ) | none => true
theorem agreeL_succ {a b : List Node} {k : Nat} {x : Node} (h : a[k]? = some x) : agreeL (a.take (k + 1)) b = (agreeL (a.take k) b && match b.findIdx? (dotIs x.f0) with | some p => agreeJ x (b.getD p nodeZ) | none => true) := by
 obtain ⟨hk, e⟩ := List.getElem?_eq_some_iff.1 h
 unfold agreeL
 rw [List.take_succ_eq_append_getElem hk, List.all_append, e, List.all_cons, List.all_nil, Bool.and_true]
theorem agreeL_take {a b : List Node} {k : Nat} (h : agreeL (a.take k) b = false) : agreeL a b = false := by
 rw [Bool.eq_false_iff] at h ⊢
 intro ha
 exact h (List.all_eq_true.2 fun x hx => List.all_eq_true.1 ha x (List.mem_of_mem_take hx))
def redpencilref14_Agree.f (l0 l1 : List Node) : Option Bool := if l0.length ≤ 400000 ∧ l1.length ≤ 400000 then some (agreeL l0 l1) else none
/-- What has come up where two nodes are compared. -/
structure AG (w : World) (g : Nat) (l12 l13 : Bool) (V : World) : Prop where
 ord : l13 = true → l12 = true
 below : Below w.heap.size w V
 ge : l12 = true → w.heap.size ≤ g
 bx : l12 = true → l13 = false → V.heap[g]? = some boxZ
def ag6Inv (W0 : World) (ad ad1 : Addr) (na c0 nb c1 k p : Nat) (x y : Node) (t : Bool) (z2 z3 z4 z7 z8 z9 z10 z11 z12 z13 z14 z15 z16 z17 z18 z19 z20 z21 z22 z23 z24 z25 z26 z27 z28 z29 z30 z31 z32 z33 z34 z35 z36 z37 : Value) (L : Array Bool) (ac : Act) (V : World) : Prop := ∃ (l0 l1 l2 l3 l4 l5 l6 l7 l8 l9 l10 l11 l12 l13 l14 : Bool) (g : Nat), L = #[l0, l1, l2, l3, l4, l5, l6, l7, l8, l9, l10, l11, l12, l13, l14] ∧ ac = { tmps := #[.slice (some ad) na c0, .slice (some ad1) nb c1, z2, z3, z4, .int .i64 (k : Int), .int .i64 (p : Int), selv l12 (.pointer (some ⟨g, 0, none⟩)) (z7), selv l14 (.bool t) (z8), z9, z10, z11, z12, z13, z14, z15, z16, z17, z18, z19, z20, z21, z22, z23, selv l9 (.tuple #[vNode (mergeJ x y), .bool t]) (z24), selv l0 (.slice (some ad) na c0) (z25), selv l1 (.int .i64 (k : Int)) (z26), selv l2 (.pointer (some (ad.add (k * 6)))) (z27), selv l3 (vNode x) (z28), selv l4 (.slice (some ad1) nb c1) (z29), selv l5 (.int .i64 (p : Int)) (z30), selv l6 (.pointer (some (ad1.add (p * 6)))) (z31), selv l7 (vNode y) (z32), selv l8 (.tuple #[vNode (mergeJ x y), .bool t]) (z33), selv l10 (vNode (mergeJ x y)) (z34), selv l11 (.bool t) (z35), z36, z37], defers := [] } ∧ Aside0 (AG W0 g l12 l13 V)
set_option maxHeartbeats 4000000 in
set_option maxRecDepth 100000 in
theorem redpencilref14_Agree.calls (A0 : Option Addr) (c0 : Nat) (l0 : List Node) (A1 : Option Addr) (c1 : Nat) (l1 : List Node) (r : Bool) (w : World) (hr0 : Kd.C k53 w A0 l0.length l0) (hc0 : l0.length ≤ c0) (hr1 : Kd.C k53 w A1 l1.length l1) (hc1 : l1.length ≤ c1) (h : redpencilref14_Agree.f l0 l1 = some r) :
  Calls Tryz.prog 27 #[.slice A0 l0.length c0, .slice A1 l1.length c1] w fun e w' => e = .returned (.bool r) ∧ Below w.heap.size w w' := by
 unfold redpencilref14_Agree.f at h
 by_cases hl : l0.length ≤ 400000 ∧ l1.length ≤ 400000
 rotate_left
 ·
  rw [if_neg hl] at h; cases h
 rw [if_pos hl] at h
 have HRES := Aside0.mk (Option.some.inj h)
 have HR := Aside0.mk hr0
 have HR1 := Aside0.mk hr1
 have HC1 := Aside0.mk hc1
 obtain ⟨na, Ha⟩ : ∃ n, Aside0 (l0.length = n) := ⟨_, ⟨rfl⟩⟩
 obtain ⟨nb, Hb⟩ : ∃ n, Aside0 (l1.length = n) := ⟨_, ⟨rfl⟩⟩
 have HL : Aside0 (na ≤ 400000 ∧ nb ≤ 400000) := ⟨by rw [← Ha.out, ← Hb.out]; exact hl⟩
 rw [Ha.out] at HR
 rw [Hb.out] at HR1 HC1
 rw [Ha.out, Hb.out]
 have hu := Tryz.underlying53
 have hu2 := Tryz.underlying25
 clear h hl hr0 hr1 hc0 hc1
 go_enter Tryz.func27, Tryz.ntmps27
 go_wp2
 go_loopw [5] (fun i wr => ∃ k : Nat, k ≤ na ∧ i = .int .i64 k ∧ Aside0 (agreeL (l0.take k) l1 = true) ∧ Aside0 (Below w.heap.size w wr)) (fun i _ => na - (intOf i).toNat)
 case atStart => exact ⟨0, Nat.zero_le _, rfl, ⟨rfl⟩, ⟨Below.refl _ _⟩⟩
 case round =>
  obtain ⟨k, hk, rfl, HOK, HB⟩ := hrel
  by_cases hlt : k < na
  ·
   obtain ⟨x, Hx⟩ : ∃ x, Aside0 (l0[k]? = some x) := ⟨_, ⟨List.getElem?_eq_getElem (by rw [Ha.out]; exact hlt)⟩⟩
   have HST := Aside0.mk (agreeL_succ (b := l1) Hx.out)
   rw [HOK.out, Bool.true_and] at HST
   have HK : Aside0 (k < na ∧ na ≤ 400000) := ⟨hlt, HL.out.1⟩
   obtain ⟨q, Hq⟩ : ∃ q, Aside0 (idxFrom (dotIs x.f0) l1 = q) := ⟨_, ⟨rfl⟩⟩
   have HFD := Aside0.mk (redpencilref14_Find.calls (nb + 1) A1 c1 l1 x.f0.f0 x.f0.f1 q wr (by rw [Hb.out]; exact Kd.C_below HR1.out HB.out) (by rw [Hb.out]; exact HC1.out) (by rw [jfind_is l1 (by have := Hb.out; have := HL.out; omega) x.f0 (by rw [Hb.out]; omega), Hq.out]))
   rw [Hb.out] at HFD
   obtain ⟨ad, e, y0, y1, y2, y3, y4, y5⟩ := node_at HR.out HB.out k x Hx.out
   subst e
   have hkk := HK.out
   go_wp2_with fail
   clear y0 y1 y2 y3 y4 y5
   refine HFD.out.mono ?_
   rintro e V1 ⟨rfl, hb⟩
   have HB := Aside0.mk (below_more HB.out hb)
   clear hb HFD
   cases hf : l1.findIdx? (dotIs x.f0) with
   | none =>
    have hq : q = -1 := by rw [← Hq.out]; unfold idxFrom; rw [hf]
    subst hq
    rw [hf] at HST
    clear hf
    go_wp2
    go_roundw
    case rel => exact ⟨k + 1, by omega, by go_num, HST, HB⟩
    case measure => simp [intOf]; omega
   | some p =>
    have hq : q = (p : Int) := by rw [← Hq.out]; unfold idxFrom; rw [hf]
    subst hq
    have hp : p < nb := by rw [← Hb.out]; exact (List.findIdx?_eq_some_iff_getElem.1 hf).1
    obtain ⟨y, Hy⟩ : ∃ y, Aside0 (l1[p]? = some y) := ⟨_, ⟨List.getElem?_eq_getElem (by rw [Hb.out]; exact hp)⟩⟩
    obtain ⟨t, Ht⟩ : ∃ t, Aside0 (agreeJ x y = t) := ⟨_, ⟨rfl⟩⟩
    have HST : Aside0 (agreeL (l0.take (k + 1)) l1 = t) := ⟨by rw [HST.out, hf, ← Ht.out]; simp [List.getD, Hy.out]⟩
    have HPN : Aside0 (p < nb ∧ nb ≤ 400000) := ⟨hp, HL.out.2⟩
    obtain ⟨ad1, e, y0, y1, y2, y3, y4, y5⟩ := node_at HR1.out HB.out p y Hy.out
    subst e
    clear y0 y1 y2 y3 y4 y5 hf
    have gq : decide ((p : Int) ≥ 0) = true := decide_eq_true (by omega)
    go_wp2_with fail
    clear gq
    refine AnyOrder.wp_region (by kernel_rfl) (ag6Inv w ad ad1 na c0 nb c1 k p x y t _ _ _ _ _ _ _ _ _ _ _ _ _ _ _ _ _ _ _ _ _ _ _ _ _ _ _ _ _ _ _ _ _ _) ⟨false, false, false, false, false, false, false, false, false, false, false, false, false, false, false, 0, rfl, rfl, ⟨⟨fun h => (by cases h), below_more HB.out (below_drew1 (Below.refl _ V1)), fun h => (by cases h), fun h => (by cases h)⟩⟩⟩ ?step ?last
    case step =>
     rintro L ac V i ⟨l0, l1, l2, l3, l4, l5, l6, l7, l8, l9, l10, l11, l12, l13, l14, g, rfl, rfl, HF⟩ hi K hK
     rcases AnyOrder.up hi [0, 1, 4, 5, 9, 10, 11, 14, 2, 3, 6, 7, 8, 12, 13] rfl with rfl | rfl | rfl | rfl | rfl | rfl | rfl | rfl | rfl | rfl | rfl | rfl | rfl | rfl | rfl
     all_goals
      replace hi := AnyOrder.first hi rfl
      repeat (obtain ⟨ha, hi⟩ := hi; first | obtain rfl := ha | clear ha)
      clear hi
      try simp only [sel_true, selv_true] at hK ⊢
     iterate 8
      ·
       refine AnyOrder.wpOp_go rfl (by rfl) ?_
       go_wp2_with fail
       exact ⟨_, _, _, _, _, _, _, _, _, _, _, _, _, _, _, g, rfl, rfl, HF⟩
     ·
      have hkk := HK.out
      refine AnyOrder.wpOp_go rfl (by rfl) ?_
      go_wp2_with fail
      exact ⟨_, _, _, _, _, _, _, _, _, _, _, _, _, _, _, g, rfl, rfl, HF⟩
     ·
      obtain ⟨a', e, q0, q1, q2, q3, q4, q5⟩ := node_at HR.out HF.out.below k x Hx.out
      cases e
      refine AnyOrder.wpOp_go rfl (by rfl) ?_
      go_wp2_with fail
      exact ⟨_, _, _, _, _, _, _, _, _, _, _, _, _, _, _, g, rfl, rfl, HF⟩
     ·
      have hpp := HPN.out
      refine AnyOrder.wpOp_go rfl (by rfl) ?_
      go_wp2_with fail
      exact ⟨_, _, _, _, _, _, _, _, _, _, _, _, _, _, _, g, rfl, rfl, HF⟩
     ·
      obtain ⟨a', e, q0, q1, q2, q3, q4, q5⟩ := node_at HR1.out HF.out.below p y Hy.out
      cases e
      refine AnyOrder.wpOp_go rfl (by rfl) ?_
      go_wp2_with fail
      exact ⟨_, _, _, _, _, _, _, _, _, _, _, _, _, _, _, g, rfl, rfl, HF⟩
     ·
      refine AnyOrder.wpOp_go rfl (by rfl) ?_
      go_wp2_with fail
      refine (merge14_call x y V).mono ?_
      rintro e V' ⟨rfl, hb⟩
      rw [Ht.out]
      exact hK _ _ ⟨_, _, _, _, _, _, _, _, _, _, _, _, _, _, _, g, rfl, rfl, ⟨⟨HF.out.ord, below_more HF.out.below hb, HF.out.ge, fun h1 h2 => blk_keep (HF.out.bx h1 h2) hb⟩⟩⟩
     ·
      obtain rfl : l13 = false := by cases l13 with | false => rfl | true => cases HF.out.ord rfl
      refine AnyOrder.wpOp_go rfl (by rfl) ?_
      go_wp2_with fail
      exact ⟨_, _, _, _, _, _, _, _, _, _, _, _, _, _, _, V.heap.size, rfl, rfl, ⟨⟨fun _ => rfl, below_alloc HF.out.below boxZ, fun _ => HF.out.below.size, fun _ _ => blk_new V boxZ⟩⟩⟩
     ·
      refine AnyOrder.wpOp_go rfl (by rfl) ?_
      refine op_boxNode (.tmp 7) (.tmp 34) rfl rfl (HF.out.bx rfl rfl) (mergeJ x y) rfl rfl ?_
      intro W4 _ h2
      exact hK _ _ ⟨_, _, _, _, _, _, _, _, _, _, _, _, _, _, _, g, rfl, rfl, ⟨⟨fun _ => rfl, HF.out.below.grown h2 HF.out.below.size (fun q e => by cases e; exact HF.out.ge rfl), HF.out.ge, fun _ h => (by cases h)⟩⟩⟩
    case last =>
     rintro L ac V ⟨l0, l1, l2, l3, l4, l5, l6, l7, l8, l9, l10, l11, l12, l13, l14, g, rfl, rfl, HF⟩ hr
     obtain ⟨rfl, rfl, rfl, rfl, rfl, rfl, rfl, rfl, rfl, rfl, rfl, rfl, rfl, rfl, rfl, -⟩ := AnyOrder.alls rfl (by kernel_rfl) hr
     clear hr
     simp only [sel_true, selv_true]
     have HB := Aside0.mk HF.out.below
     have hkk := HK.out
     clear HF
     cases t with
     | false =>
      have HEND : Aside0 (r = false) := ⟨by rw [← HRES.out]; exact agreeL_take HST.out⟩
      go_wp2
      go_ret
      exact ⟨by rw [HEND.out]; rfl, HB.out⟩
     | true =>
      go_wp2
      go_roundw
      case rel => exact ⟨k + 1, by omega, by go_num, HST, HB⟩
      case measure => simp [intOf]; omega
  ·
   obtain rfl : k = na := by omega
   rw [List.take_of_length_le (Nat.le_of_eq Ha.out), HRES.out] at HOK
   have HEND : Aside0 (r = true) := ⟨HOK.out⟩
   go_wp2
   go_ret
   exact ⟨by rw [HEND.out]; rfl, HB.out⟩
end Go.Proofs.YtmbndijbpgobeaaGreat.PWalk
end
section
namespace Go.Proofs.YtmbndijbpgobeaaGreat.PWalk
open Go.RowKit Go.Proofs.YtmbndijbpgobeaaGreatW.PrintWords Go.Proofs.YtmbndijbpgobeaaGreatW.PrintLast Go.Proofs.YtmbndijbpgobeaaGreatW.PrintMore
attribute [local go_sem] max2_int max_two
set_option linter.unusedVariables false
set_option linter.unusedSimpArgs false
attribute [local go_sem high] eqA25
def redpencilref14_IsRune.f (a0 : Int) : Option (Bool) := if a0 ≥ 1 then (if a0 ≤ 1114111 then (if a0 < 55296 then (some true) else (some (decide (a0 > 57343)))) else (some false)) else (some false)
set_option maxHeartbeats 8000000 in
set_option maxRecDepth 100000 in
theorem redpencilref14_IsRune.calls (a0 : Int) (r : Bool) (w : World) (h : redpencilref14_IsRune.f a0 = some r) :
  Calls Tryz.prog 31 #[.int .i32 a0] w fun e w' => e = .returned (.bool r) ∧ Drawn0 w w' := by
 have H : (if a0 ≥ 1 then (if a0 ≤ 1114111 then (if a0 < 55296 then (some true) else (some (decide (a0 > 57343)))) else (some false)) else (some false)) = some r := h
 clear h
 by_cases c2 : a0 ≥ 1
 ·
  rw [if_pos c2] at H
  have c2b0 : decide (1 ≤ a0) = true := decide_eq_true c2
  clear c2
  by_cases c3 : a0 ≤ 1114111
  ·
   rw [if_pos c3] at H
   have c3b0 : decide (a0 ≤ 1114111) = true := decide_eq_true c3
   clear c3
   by_cases c4 : a0 < 55296
   ·
    rw [if_pos c4] at H
    have c4b0 : decide (a0 < 55296) = true := decide_eq_true c4
    clear c4
    obtain rfl := Option.some.inj H
    go_enter Tryz.func31, Tryz.ntmps31
    go_wp2
    go_ret
    exact ⟨by first | rfl | (simp; done) | (simp [*]; done), by repeat (first | exact Drawn0.refl _ | apply Drawn0.step)⟩
   ·
    rw [if_neg c4] at H
    have c4b0 : decide (a0 < 55296) = false := decide_eq_false c4
    clear c4
    obtain rfl := Option.some.inj H
    go_enter Tryz.func31, Tryz.ntmps31
    go_wp2
    go_ret
    exact ⟨by first | rfl | (simp; done) | (simp [*]; done), by repeat (first | exact Drawn0.refl _ | apply Drawn0.step)⟩
  ·
   rw [if_neg c3] at H
   have c3b0 : decide (a0 ≤ 1114111) = false := decide_eq_false c3
   clear c3
   obtain rfl := Option.some.inj H
   go_enter Tryz.func31, Tryz.ntmps31
   go_wp2
   go_ret
   exact ⟨by first | rfl | (simp; done) | (simp [*]; done), by repeat (first | exact Drawn0.refl _ | apply Drawn0.step)⟩
 ·
  rw [if_neg c2] at H
  have c2b0 : decide (1 ≤ a0) = false := decide_eq_false c2
  clear c2
  obtain rfl := Option.some.inj H
  go_enter Tryz.func31, Tryz.ntmps31
  go_wp2
  go_ret
  exact ⟨by first | rfl | (simp; done) | (simp [*]; done), by repeat (first | exact Drawn0.refl _ | apply Drawn0.step)⟩
def redpencilref14_IsDot.f (a0_0 : Int) (a0_1 : Int) : Option (Bool) := if a0_0 ≥ 1 then (if a0_0 ≤ 64 then (if a0_1 ≥ 1 then (some (decide (a0_1 ≤ 4294967295))) else (some false)) else (some false)) else (some false)
set_option maxHeartbeats 8000000 in
set_option maxRecDepth 100000 in
theorem redpencilref14_IsDot.calls (a0_0 : Int) (a0_1 : Int) (r : Bool) (w : World) (h : redpencilref14_IsDot.f a0_0 a0_1 = some r) :
  Calls Tryz.prog 37 #[.agg #[.int .i64 a0_0, .int .i64 a0_1]] w fun e w' => e = .returned (.bool r) ∧ Below w.heap.size w w' := by
 have hu25 := Tryz.underlying25
 have HB := Aside0.mk (Below.refl w.heap.size w)
 have H : (if a0_0 ≥ 1 then (if a0_0 ≤ 64 then (if a0_1 ≥ 1 then (some (decide (a0_1 ≤ 4294967295))) else (some false)) else (some false)) else (some false)) = some r := h
 clear h
 by_cases c2 : a0_0 ≥ 1
 ·
  rw [if_pos c2] at H
  have c2b0 : decide (1 ≤ a0_0) = true := decide_eq_true c2
  clear c2
  by_cases c3 : a0_0 ≤ 64
  ·
   rw [if_pos c3] at H
   have c3b0 : decide (a0_0 ≤ 64) = true := decide_eq_true c3
   clear c3
   by_cases c4 : a0_1 ≥ 1
   ·
    rw [if_pos c4] at H
    have c4b0 : decide (1 ≤ a0_1) = true := decide_eq_true c4
    clear c4
    obtain rfl := Option.some.inj H
    go_enter Tryz.func37, Tryz.ntmps37
    go_wp2_with (first | ((with_reducible refine gate_dst (N := 1) rfl ?_); refine box_event ?hg (N := 1) ?hd (cs := #[.int .i64 a0_0, .int .i64 a0_1]) (t := 25) ?hr ?_; (case hd => rfl); (case hg => rfl); (case hr => first | (go_simp; done) | (go_simp; rfl)); intro gb240 hg w5 hbox hb; have n0_ := Aside0.mk (below_step (by repeat (first | (with_reducible first | exact HB.out | apply below_alloc | apply pw_below_drewN | apply below_drew1) | exact HB.out)) hb); have n1_ := Aside0.mk (hbox); have n2_ := Aside0.mk ((by rw [hg]; exact (below_size (by repeat (first | (with_reducible first | exact HB.out | apply below_alloc | apply pw_below_drewN | apply below_drew1) | exact HB.out))) : w.heap.size ≤ gb240)); have n3_ := Aside0.mk ((by rw [hg]; exact (below_size (by repeat (first | (with_reducible first | exact HB.out | apply below_alloc | apply pw_below_drewN | apply below_drew1) | exact HB.out))) : w.heap.size ≤ gb240)); clear HB; have HB := n0_; have BK240 := n1_; have GW240 := n2_; have GE240 := n3_; clear n0_ n1_ n2_ n3_; clear hb hbox hg; have hcz6_0 : w5.cell? ⟨gb240, 0, none⟩ = some (.int .i64 a0_0) := (blk_cell BK240.out 0).trans rfl; have hcz6_1 : w5.cell? ⟨gb240, 1, none⟩ = some (.int .i64 a0_1) := (blk_cell BK240.out 1).trans rfl; have hfz6_0 := blk_frozen BK240.out 0; have hfz6_1 := blk_frozen BK240.out 1))
    go_ret
    exact ⟨by first | rfl | (simp [errW_none, errW_some] <;> rfl) | (simp [*, errW_none, errW_some] <;> rfl), by repeat (first | (with_reducible first | exact HB.out | apply below_alloc | apply pw_below_drewN | apply below_drew1 | refine below_set ?_ GE240.out) | exact HB.out)⟩
   ·
    rw [if_neg c4] at H
    have c4b0 : decide (1 ≤ a0_1) = false := decide_eq_false c4
    clear c4
    obtain rfl := Option.some.inj H
    go_enter Tryz.func37, Tryz.ntmps37
    go_wp2_with (first | ((with_reducible refine gate_dst (N := 1) rfl ?_); refine box_event ?hg (N := 1) ?hd (cs := #[.int .i64 a0_0, .int .i64 a0_1]) (t := 25) ?hr ?_; (case hd => rfl); (case hg => rfl); (case hr => first | (go_simp; done) | (go_simp; rfl)); intro gb240 hg w7 hbox hb; have n0_ := Aside0.mk (below_step (by repeat (first | (with_reducible first | exact HB.out | apply below_alloc | apply pw_below_drewN | apply below_drew1) | exact HB.out)) hb); have n1_ := Aside0.mk (hbox); have n2_ := Aside0.mk ((by rw [hg]; exact (below_size (by repeat (first | (with_reducible first | exact HB.out | apply below_alloc | apply pw_below_drewN | apply below_drew1) | exact HB.out))) : w.heap.size ≤ gb240)); have n3_ := Aside0.mk ((by rw [hg]; exact (below_size (by repeat (first | (with_reducible first | exact HB.out | apply below_alloc | apply pw_below_drewN | apply below_drew1) | exact HB.out))) : w.heap.size ≤ gb240)); clear HB; have HB := n0_; have BK240 := n1_; have GW240 := n2_; have GE240 := n3_; clear n0_ n1_ n2_ n3_; clear hb hbox hg; have hcz8_0 : w7.cell? ⟨gb240, 0, none⟩ = some (.int .i64 a0_0) := (blk_cell BK240.out 0).trans rfl; have hcz8_1 : w7.cell? ⟨gb240, 1, none⟩ = some (.int .i64 a0_1) := (blk_cell BK240.out 1).trans rfl; have hfz8_0 := blk_frozen BK240.out 0; have hfz8_1 := blk_frozen BK240.out 1))
    go_ret
    exact ⟨by first | rfl | (simp [errW_none, errW_some] <;> rfl) | (simp [*, errW_none, errW_some] <;> rfl), by repeat (first | (with_reducible first | exact HB.out | apply below_alloc | apply pw_below_drewN | apply below_drew1 | refine below_set ?_ GE240.out) | exact HB.out)⟩
  ·
   rw [if_neg c3] at H
   have c3b0 : decide (a0_0 ≤ 64) = false := decide_eq_false c3
   clear c3
   obtain rfl := Option.some.inj H
   go_enter Tryz.func37, Tryz.ntmps37
   go_wp2_with (first | ((with_reducible refine gate_dst (N := 1) rfl ?_); refine box_event ?hg (N := 1) ?hd (cs := #[.int .i64 a0_0, .int .i64 a0_1]) (t := 25) ?hr ?_; (case hd => rfl); (case hg => rfl); (case hr => first | (go_simp; done) | (go_simp; rfl)); intro gb240 hg w9 hbox hb; have n0_ := Aside0.mk (below_step (by repeat (first | (with_reducible first | exact HB.out | apply below_alloc | apply pw_below_drewN | apply below_drew1) | exact HB.out)) hb); have n1_ := Aside0.mk (hbox); have n2_ := Aside0.mk ((by rw [hg]; exact (below_size (by repeat (first | (with_reducible first | exact HB.out | apply below_alloc | apply pw_below_drewN | apply below_drew1) | exact HB.out))) : w.heap.size ≤ gb240)); have n3_ := Aside0.mk ((by rw [hg]; exact (below_size (by repeat (first | (with_reducible first | exact HB.out | apply below_alloc | apply pw_below_drewN | apply below_drew1) | exact HB.out))) : w.heap.size ≤ gb240)); clear HB; have HB := n0_; have BK240 := n1_; have GW240 := n2_; have GE240 := n3_; clear n0_ n1_ n2_ n3_; clear hb hbox hg; have hcz10_0 : w9.cell? ⟨gb240, 0, none⟩ = some (.int .i64 a0_0) := (blk_cell BK240.out 0).trans rfl; have hcz10_1 : w9.cell? ⟨gb240, 1, none⟩ = some (.int .i64 a0_1) := (blk_cell BK240.out 1).trans rfl; have hfz10_0 := blk_frozen BK240.out 0; have hfz10_1 := blk_frozen BK240.out 1))
   go_ret
   exact ⟨by first | rfl | (simp [errW_none, errW_some] <;> rfl) | (simp [*, errW_none, errW_some] <;> rfl), by repeat (first | (with_reducible first | exact HB.out | apply below_alloc | apply pw_below_drewN | apply below_drew1 | refine below_set ?_ GE240.out) | exact HB.out)⟩
 ·
  rw [if_neg c2] at H
  have c2b0 : decide (1 ≤ a0_0) = false := decide_eq_false c2
  clear c2
  obtain rfl := Option.some.inj H
  go_enter Tryz.func37, Tryz.ntmps37
  go_wp2_with (first | ((with_reducible refine gate_dst (N := 1) rfl ?_); refine box_event ?hg (N := 1) ?hd (cs := #[.int .i64 a0_0, .int .i64 a0_1]) (t := 25) ?hr ?_; (case hd => rfl); (case hg => rfl); (case hr => first | (go_simp; done) | (go_simp; rfl)); intro gb240 hg w11 hbox hb; have n0_ := Aside0.mk (below_step (by repeat (first | (with_reducible first | exact HB.out | apply below_alloc | apply pw_below_drewN | apply below_drew1) | exact HB.out)) hb); have n1_ := Aside0.mk (hbox); have n2_ := Aside0.mk ((by rw [hg]; exact (below_size (by repeat (first | (with_reducible first | exact HB.out | apply below_alloc | apply pw_below_drewN | apply below_drew1) | exact HB.out))) : w.heap.size ≤ gb240)); have n3_ := Aside0.mk ((by rw [hg]; exact (below_size (by repeat (first | (with_reducible first | exact HB.out | apply below_alloc | apply pw_below_drewN | apply below_drew1) | exact HB.out))) : w.heap.size ≤ gb240)); clear HB; have HB := n0_; have BK240 := n1_; have GW240 := n2_; have GE240 := n3_; clear n0_ n1_ n2_ n3_; clear hb hbox hg; have hcz12_0 : w11.cell? ⟨gb240, 0, none⟩ = some (.int .i64 a0_0) := (blk_cell BK240.out 0).trans rfl; have hcz12_1 : w11.cell? ⟨gb240, 1, none⟩ = some (.int .i64 a0_1) := (blk_cell BK240.out 1).trans rfl; have hfz12_0 := blk_frozen BK240.out 0; have hfz12_1 := blk_frozen BK240.out 1))
  go_ret
  exact ⟨by first | rfl | (simp [errW_none, errW_some] <;> rfl) | (simp [*, errW_none, errW_some] <;> rfl), by repeat (first | (with_reducible first | exact HB.out | apply below_alloc | apply pw_below_drewN | apply below_drew1 | refine below_set ?_ GE240.out) | exact HB.out)⟩
end Go.Proofs.YtmbndijbpgobeaaGreat.PWalk
end
section
namespace Go.Proofs.YtmbndijbpgobeaaGreat.PWalk
open Go.RowKit Go.Proofs.YtmbndijbpgobeaaGreatW.PrintWords Go.Proofs.YtmbndijbpgobeaaGreatW.PrintLast Go.Proofs.YtmbndijbpgobeaaGreatW.PrintMore
set_option linter.unusedVariables false
set_option linter.unusedSimpArgs false
open Go.Shelf
attribute [local go_sem] Oper.semAt_some
theorem jdot_is (d : Dot) : redpencilref14_IsDot.f d.f0 d.f1 = some (dotOk d) := by
 unfold redpencilref14_IsDot.f dotOk
 by_cases h0 : d.f0 ≥ 1 <;> by_cases h1 : d.f0 ≤ 64 <;> by_cases h2 : d.f1 ≥ 1 <;> by_cases h3 : d.f1 ≤ 4294967295 <;> simp [h0, h1, h2, h3] <;> (try omega)
theorem jrune_ok (r : Int) : redpencilref14_IsRune.f r = some (runeOk r) := by
 unfold redpencilref14_IsRune.f runeOk
 by_cases h1 : r ≥ 1 <;> by_cases h2 : r ≤ 1114111 <;> by_cases h3 : r < 55296 <;> by_cases h4 : r > 57343 <;> simp [h1, h2, h3, h4] <;> omega
theorem nodeOk_is (x : Node) : nodeOk x = (dotOk x.f0 && (((x.f1.f0 == 0 && (x.f1.f1 == 0)) || dotOk x.f1) && (!(x.f1.f0 == x.f0.f0 && (x.f1.f1 == x.f0.f1)) && (decide (x.f2 ≥ 1) && (decide (x.f2 ≤ 4611686018427387904) && ((x.f3 == 0) || runeOk x.f3)))))) := by
 have e : ((x.f1.f0 == x.f0.f0 && (x.f1.f1 == x.f0.f1)) = true) ↔ x.f1 = x.f0 := by rw [Dot.ext_iff']; simp
 have e2 : ((x.f1.f0 == 0 && (x.f1.f1 == 0)) = true) ↔ dotRoot x.f1 = true := by unfold dotRoot; simp
 unfold nodeOk
 rw [Bool.eq_iff_iff]
 simp only [decide_eq_true_eq, Bool.and_eq_true, Bool.or_eq_true, Bool.not_eq_true', Bool.eq_false_iff, ne_eq, e, beq_iff_eq, ge_iff_le]
 have e2' : (x.f1.f0 = 0 ∧ x.f1.f1 = 0) ↔ dotRoot x.f1 = true := by unfold dotRoot; simp
 rw [e2']
section
attribute [local go_sem high] eqA25
set_option maxHeartbeats 4000000 in
set_option maxRecDepth 100000 in
theorem isNode_call (x : Node) (w : World) : Calls Tryz.prog 57 #[vNode x] w fun e w' => e = .returned (.bool (nodeOk x)) ∧ Below w.heap.size w w' := by
 have HX : Aside0 ((w.alloc (boxN x)).heap[w.heap.size]? = some (boxN x)) := ⟨blk_new w _⟩
 have HB : Aside0 (Below w.heap.size w (w.alloc (boxN x))) := ⟨below_alloc (Below.refl _ _) _⟩
 have HRES := Aside0.mk (nodeOk_is x)
 obtain ⟨b0, H0⟩ : ∃ b, Aside0 (dotOk x.f0 = b) := ⟨_, ⟨rfl⟩⟩
 obtain ⟨b1, H1⟩ : ∃ b, Aside0 ((x.f1.f0 == 0 && (x.f1.f1 == 0)) = b) := ⟨_, ⟨rfl⟩⟩
 obtain ⟨b2, H2⟩ : ∃ b, Aside0 (dotOk x.f1 = b) := ⟨_, ⟨rfl⟩⟩
 obtain ⟨b3, H3⟩ : ∃ b, Aside0 ((x.f1.f0 == x.f0.f0 && (x.f1.f1 == x.f0.f1)) = b) := ⟨_, ⟨rfl⟩⟩
 obtain ⟨b4, H4⟩ : ∃ b, Aside0 (decide (x.f2 ≥ 1) = b) := ⟨_, ⟨rfl⟩⟩
 obtain ⟨b5, H5⟩ : ∃ b, Aside0 (decide (x.f2 ≤ 4611686018427387904) = b) := ⟨_, ⟨rfl⟩⟩
 obtain ⟨b6, H6⟩ : ∃ b, Aside0 ((x.f3 == 0) = b) := ⟨_, ⟨rfl⟩⟩
 obtain ⟨b7, H7⟩ : ∃ b, Aside0 (runeOk x.f3 = b) := ⟨_, ⟨rfl⟩⟩
 rw [H0.out, H1.out, H2.out, H3.out, H4.out, H5.out, H6.out, H7.out] at HRES
 rw [HRES.out]
 go_enter Tryz.func57, Tryz.ntmps57
 obtain ⟨x0, x1, x2, x3, x4, x5⟩ := box_six HX.out
 go_wp2_with fail
 refine (redpencilref14_IsDot.calls _ _ b0 _ (by rw [jdot_is, H0.out])).mono ?_
 rintro e V ⟨rfl, hb⟩
 have HX := Aside0.mk (blk_keep HX.out hb)
 have HB := Aside0.mk (below_more HB.out hb)
 clear hb x0 x1 x2 x3 x4 x5
 obtain ⟨x0, x1, x2, x3, x4, x5⟩ := box_six HX.out
 cases b0
 case false => go_wp2; go_ret; exact ⟨rfl, HB.out⟩
 have h1 := H1.out
 cases b1
 case' false =>
  go_wp2_with fail
  refine (redpencilref14_IsDot.calls _ _ b2 _ (by rw [jdot_is, H2.out])).mono ?_
  rintro e V ⟨rfl, hb⟩
  have HX := Aside0.mk (blk_keep HX.out hb)
  have HB := Aside0.mk (below_more HB.out hb)
  clear hb x0 x1 x2 x3 x4 x5
  obtain ⟨x0, x1, x2, x3, x4, x5⟩ := box_six HX.out
  cases b2
  case false => go_wp2; go_ret; exact ⟨rfl, HB.out⟩
 all_goals
  have h3 := H3.out
  cases b3
  case true => go_wp2; go_ret; exact ⟨rfl, HB.out⟩
  have h4 := H4.out
  cases b4
  case false =>
   have h4' : decide (1 ≤ x.f2) = false := h4
   go_wp2; go_ret; exact ⟨rfl, HB.out⟩
  have h4' : decide (1 ≤ x.f2) = true := h4
  have h5 := H5.out
  cases b5
  case false => go_wp2; go_ret; exact ⟨rfl, HB.out⟩
  have h6 := H6.out
  cases b6
  case true => go_wp2; go_ret; exact ⟨rfl, HB.out⟩
  go_wp2_with fail
  refine (redpencilref14_IsRune.calls _ b7 _ (by rw [jrune_ok, H7.out])).mono ?_
  rintro e V ⟨rfl, hb⟩
  have HB := Aside0.mk (below_more HB.out hb.below)
  clear hb x0 x1 x2 x3 x4 x5
  cases b7 <;> (go_wp2; go_ret; exact ⟨rfl, HB.out⟩)
end
end Go.Proofs.YtmbndijbpgobeaaGreat.PWalk
end
section
namespace Go.Proofs.YtmbndijbpgobeaaGreat.PWalk
open Go.RowKit Go.Proofs.YtmbndijbpgobeaaGreatW.PrintWords Go.Proofs.YtmbndijbpgobeaaGreatW.PrintLast Go.Proofs.YtmbndijbpgobeaaGreatW.PrintMore
set_option linter.unusedVariables false
set_option linter.unusedSimpArgs false
open Go.Shelf
attribute [local go_sem] Oper.semAt_some
theorem incB_append (l : List Dot) (a b : Dot) : incB (l ++ [a, b]) = (incB (l ++ [a]) && dotLt a b) := by
 induction l with
 | nil => simp [incB]
 | cons c l ih =>
  cases l with
  | nil => simp [incB]
  | cons e l =>
   simp only [List.cons_append] at ih ⊢
   rw [incB, incB, ih, Bool.and_assoc]
theorem incB_left (l m : List Dot) (h : incB (l ++ m) = true) : incB l = true := by
 induction l with
 | nil => rfl
 | cons c l ih =>
  cases l with
  | nil => rfl
  | cons e l =>
   simp only [List.cons_append] at ih h
   rw [incB, Bool.and_eq_true] at h ⊢
   exact ⟨h.1, ih h.2⟩
theorem storeOk_append (l m : List Node) (h : storeOk (l ++ m) = true) : storeOk l = true := by
 unfold storeOk at h ⊢
 rw [Bool.and_eq_true, List.map_append, List.all_append, Bool.and_eq_true] at h
 rw [Bool.and_eq_true]
 exact ⟨h.1.1, incB_left _ _ h.2⟩
theorem storeOk_take {l : List Node} {i : Nat} (h : storeOk (l.take i) = false) : storeOk l = false := by
 rw [Bool.eq_false_iff] at h ⊢
 intro hl
 exact h (storeOk_append (l.take i) (l.drop i) (by rwa [List.take_append_drop]))
theorem storeOk_first {l : List Node} {x : Node} (h : l[0]? = some x) : storeOk (l.take 1) = nodeOk x := by
 cases l with
 | nil => cases h
 | cons y l => cases h; simp [storeOk, incB]
theorem storeOk_next {l : List Node} {j : Nat} {y x : Node} (hy : l[j]? = some y) (hx : l[j + 1]? = some x) : storeOk (l.take (j + 2)) = (storeOk (l.take (j + 1)) && (nodeOk x && dotLt y.f0 x.f0)) := by
 have h1 : l.take (j + 1) = l.take j ++ [y] := by rw [List.take_succ_eq_append_getElem (List.getElem?_eq_some_iff.1 hy).1, (List.getElem?_eq_some_iff.1 hy).2]
 have h2 : l.take (j + 2) = l.take j ++ [y] ++ [x] := by rw [← h1, List.take_succ_eq_append_getElem (List.getElem?_eq_some_iff.1 hx).1, (List.getElem?_eq_some_iff.1 hx).2]
 rw [h2, h1]
 unfold storeOk
 simp only [List.all_append, List.map_append, List.map_cons, List.map_nil, List.append_assoc, List.cons_append, List.nil_append, incB_append]
 simp only [List.all_cons, List.all_nil, Bool.and_true]
 cases (List.take j l).all nodeOk <;> cases nodeOk y <;> cases nodeOk x <;> cases incB (List.map (·.f0) (List.take j l) ++ [y.f0]) <;> simp
theorem jstore_step {l : List Node} {i j : Nat} {x y : Node} (hx : l[i]? = some x) (hj : 0 < i → i = j + 1 ∧ l[j]? = some y) (h : storeOk (l.take i) = true) : storeOk (l.take (i + 1)) = (nodeOk x && !(decide (0 < i) && !dotLt y.f0 x.f0)) := by
 by_cases hi : 0 < i
 ·
  obtain ⟨rfl, hy⟩ := hj hi
  rw [storeOk_next hy hx, h, decide_eq_true hi]; simp
 ·
  obtain rfl : i = 0 := by omega
  rw [Nat.zero_add, storeOk_first hx]; simp
def redpencilref14_Store.f (l0 : List Node) : Option Bool := if l0.length ≤ 400000 then some (storeOk l0) else none
def st14Inv (W0 : World) (ad : Addr) (n c0 i' j : Nat) (x y : Node) (b q t : Bool) (z1 z2 z4 z5 z6 z7 z8 z9 z10 z11 z12 z13 z14 z15 z16 z17 z18 z19 z20 z21 z22 z23 z24 z25 z26 z27 z28 z29 z30 z31 z32 z33 z34 : Value) (L : Array Bool) (ac : Act) (V : World) : Prop := ∃ (l0 l1 l2 l3 l4 l5 l6 l7 l8 l9 l10 l11 l12 l13 l14 l15 l16 l17 l18 l19 l20 l21 l22 l23 l24 : Bool), L = #[l0, l1, l2, l3, l4, l5, l6, l7, l8, l9, l10, l11, l12, l13, l14, l15, l16, l17, l18, l19, l20, l21, l22, l23, l24] ∧ ac = { tmps := #[.slice (some ad) n c0, z1, z2, .int .i64 (i' : Int), z4, z5, z6, z7, z8, z9, selv l0 (.slice (some ad) n c0) (z10), selv l1 (.int .i64 (i' : Int)) (z11), selv l2 (.pointer (some (ad.add (i' * 6)))) (z12), selv l3 (vNode x) (z13), selv l4 (.bool b) (z14), selv l5 (.bool (!b)) (z15), selv l6 (.bool (!b)) (z16), selv l7 (selv b (.int .i64 (i' : Int)) undef) (z17), selv l8 (selv b (.bool q) undef) (z18), selv l9 (selv b (.bool q) undef) (z19), selv l10 (selv b (selv q (.slice (some ad) n c0) undef) undef) (z20), selv l11 (selv b (selv q (.int .i64 (i' : Int)) undef) undef) (z21), selv l12 (selv b (selv q (.int .i64 (j : Int)) undef) undef) (z22), selv l13 (selv b (selv q (.pointer (some (ad.add (j * 6)))) undef) undef) (z23), selv l14 (selv b (selv q (.pointer (some (ad.add (j * 6)))) undef) undef) (z24), selv l15 (selv b (selv q (vDot y.f0) undef) undef) (z25), selv l16 (selv b (selv q (.slice (some ad) n c0) undef) undef) (z26), selv l17 (selv b (selv q (.int .i64 (i' : Int)) undef) undef) (z27), selv l18 (selv b (selv q (.pointer (some (ad.add (i' * 6)))) undef) undef) (z28), selv l19 (selv b (selv q (.pointer (some (ad.add (i' * 6)))) undef) undef) (z29), selv l20 (selv b (selv q (vDot x.f0) undef) undef) (z30), selv l21 (selv b (selv q (.bool t) undef) undef) (z31), selv l22 (selv b (selv q (.bool (!t)) undef) undef) (z32), selv l23 (selv b (.bool (q && !t)) undef) (z33), selv l24 (.bool (!b || (q && !t))) (z34)], defers := [] } ∧ Aside0 (Below W0.heap.size W0 V)
set_option maxHeartbeats 4000000 in
set_option maxRecDepth 100000 in
theorem redpencilref14_Store.calls (A0 : Option Addr) (c0 : Nat) (l0 : List Node) (r : Bool) (w : World) (hr0 : Kd.C k53 w A0 l0.length l0) (hc0 : l0.length ≤ c0) (h : redpencilref14_Store.f l0 = some r) :
  Calls Tryz.prog 26 #[.slice A0 l0.length c0] w fun e w' => e = .returned (.bool r) ∧ Below w.heap.size w w' := by
 unfold redpencilref14_Store.f at h
 by_cases hl : l0.length ≤ 400000
 rotate_left
 ·
  rw [if_neg hl] at h; cases h
 rw [if_pos hl] at h
 have HRES := Aside0.mk (Option.some.inj h)
 have HR := Aside0.mk hr0
 obtain ⟨n, Hn⟩ : ∃ n, Aside0 (l0.length = n) := ⟨_, ⟨rfl⟩⟩
 have hn4 : n ≤ 400000 := by rw [← Hn.out]; exact hl
 rw [Hn.out]
 clear hl h hr0 hc0
 have hu := Tryz.underlying53
 have hu2 := Tryz.underlying25
 go_enter Tryz.func26, Tryz.ntmps26
 go_wp2
 go_loopw [3] (fun i wr => ∃ k : Nat, k ≤ n ∧ i = .int .i64 k ∧ Aside0 (storeOk (l0.take k) = true) ∧ Aside0 (Below w.heap.size w wr)) (fun i _ => n - (intOf i).toNat)
 case atStart => exact ⟨0, Nat.zero_le _, rfl, ⟨rfl⟩, ⟨Below.refl _ _⟩⟩
 case round =>
  obtain ⟨i', hk, rfl, HOK, HB⟩ := hrel
  by_cases hlt : i' < n
  ·
   obtain ⟨x, Hx⟩ : ∃ x, Aside0 (l0[i']? = some x) := ⟨_, ⟨List.getElem?_eq_getElem (by rw [Hn.out]; exact hlt)⟩⟩
   obtain ⟨j, y, HJ⟩ : ∃ j y, Aside0 (0 < i' → i' = j + 1 ∧ l0[j]? = some y) := by
    by_cases hi : 0 < i'
    ·
     exact ⟨i' - 1, l0[i' - 1]'(by rw [Hn.out]; omega), ⟨fun _ => ⟨by omega, List.getElem?_eq_getElem _⟩⟩⟩
    ·
     exact ⟨0, x, ⟨fun h => absurd h hi⟩⟩
   obtain ⟨b, Hb⟩ : ∃ b, Aside0 (nodeOk x = b) := ⟨_, ⟨rfl⟩⟩
   obtain ⟨q, Hq⟩ : ∃ q, Aside0 (decide (0 < i') = q) := ⟨_, ⟨rfl⟩⟩
   obtain ⟨t, Ht⟩ : ∃ t, Aside0 (dotLt y.f0 x.f0 = t) := ⟨_, ⟨rfl⟩⟩
   have HST := Aside0.mk (jstore_step Hx.out HJ.out HOK.out)
   rw [Hb.out, Hq.out, Ht.out] at HST
   have HKN : Aside0 (i' < n ∧ n ≤ 400000) := ⟨hlt, hn4⟩
   obtain ⟨ad, e, g0, g1, g2, g3, g4, g5⟩ := node_at HR.out HB.out i' x Hx.out
   subst e
   clear g0 g1 g2 g3 g4 g5
   go_wp2_with fail
   refine AnyOrder.wp_region (by kernel_rfl) (st14Inv wr.drew ad n c0 i' j x y b q t _ _ _ _ _ _ _ _ _ _ _ _ _ _ _ _ _ _ _ _ _ _ _ _ _ _ _ _ _ _ _ _ _) ⟨false, false, false, false, false, false, false, false, false, false, false, false, false, false, false, false, false, false, false, false, false, false, false, false, false, rfl, rfl, ⟨Below.refl _ _⟩⟩ ?step ?last
   case step =>
    rintro L ac V i ⟨l0, l1, l2, l3, l4, l5, l6, l7, l8, l9, l10, l11, l12, l13, l14, l15, l16, l17, l18, l19, l20, l21, l22, l23, l24, rfl, rfl, HF⟩ hi K hK
    rcases AnyOrder.up hi [0, 1, 5, 6, 2, 3, 4, 7, 9, 8, 10, 11, 14, 16, 17, 19, 22, 12, 13, 15, 18, 20, 21, 23, 24] rfl with rfl | rfl | rfl | rfl | rfl | rfl | rfl | rfl | rfl | rfl | rfl | rfl | rfl | rfl | rfl | rfl | rfl | rfl | rfl | rfl | rfl | rfl | rfl | rfl | rfl
    all_goals
     replace hi := AnyOrder.first hi rfl
     repeat (obtain ⟨ha, hi⟩ := hi; first | obtain rfl := ha | clear ha)
     clear hi
     try simp only [sel_true, selv_true] at hK ⊢
    iterate 4
     ·
      refine AnyOrder.wpOp_go rfl (by rfl) ?_
      go_wp2_with fail
      exact ⟨_, _, _, _, _, _, _, _, _, _, _, _, _, _, _, _, _, _, _, _, _, _, _, _, _, rfl, rfl, HF⟩
    ·
     have hxi := HKN.out
     refine AnyOrder.wpOp_go rfl (by rfl) ?_
     go_wp2_with fail
     exact ⟨_, _, _, _, _, _, _, _, _, _, _, _, _, _, _, _, _, _, _, _, _, _, _, _, _, rfl, rfl, HF⟩
    ·
     obtain ⟨ad', e, g0, g1, g2, g3, g4, g5⟩ := node_at HR.out (below_more HB.out (below_more (below_drew1 (Below.refl _ wr)) HF.out)) i' x Hx.out
     cases e
     refine AnyOrder.wpOp_go rfl (by rfl) ?_
     go_wp2_with fail
     exact ⟨_, _, _, _, _, _, _, _, _, _, _, _, _, _, _, _, _, _, _, _, _, _, _, _, _, rfl, rfl, HF⟩
    ·
     refine AnyOrder.wpOp_go rfl (by rfl) ?_
     go_wp2_with fail
     refine (isNode_call x V).mono ?_
     rintro e V' ⟨rfl, hb⟩
     rw [Hb.out]
     exact hK _ _ ⟨_, _, _, _, _, _, _, _, _, _, _, _, _, _, _, _, _, _, _, _, _, _, _, _, _, rfl, rfl, ⟨below_more HF.out hb⟩⟩
    iterate 2
     ·
      cases b
      ·
       refine AnyOrder.wpOp_out rfl (by rfl) ?_
       exact hK _ _ ⟨_, _, _, _, _, _, _, _, _, _, _, _, _, _, _, _, _, _, _, _, _, _, _, _, _, rfl, rfl, HF⟩
      ·
       refine AnyOrder.wpOp_go rfl (by rfl) ?_
       go_wp2_with fail
       exact ⟨_, _, _, _, _, _, _, _, _, _, _, _, _, _, _, _, _, _, _, _, _, _, _, _, _, rfl, rfl, HF⟩
    ·
     cases b
     ·
      refine AnyOrder.wpOp_out rfl (by rfl) ?_
      exact hK _ _ ⟨_, _, _, _, _, _, _, _, _, _, _, _, _, _, _, _, _, _, _, _, _, _, _, _, _, rfl, rfl, HF⟩
     ·
      have hq : decide ((i' : Int) > 0) = q := by rw [← Hq.out]; simp
      have hq2 : decide ((0 : Int) < (i' : Int)) = q := hq
      have hq3 := Hq.out
      refine AnyOrder.wpOp_go rfl (by rfl) ?_
      go_wp2_with fail
      exact ⟨_, _, _, _, _, _, _, _, _, _, _, _, _, _, _, _, _, _, _, _, _, _, _, _, _, rfl, rfl, HF⟩
    iterate 7
     ·
      cases b
      ·
       refine AnyOrder.wpOp_out rfl (by rfl) ?_
       exact hK _ _ ⟨_, _, _, _, _, _, _, _, _, _, _, _, _, _, _, _, _, _, _, _, _, _, _, _, _, rfl, rfl, HF⟩
      ·
       cases q
       ·
        refine AnyOrder.wpOp_out rfl (by rfl) ?_
        exact hK _ _ ⟨_, _, _, _, _, _, _, _, _, _, _, _, _, _, _, _, _, _, _, _, _, _, _, _, _, rfl, rfl, HF⟩
       ·
        refine AnyOrder.wpOp_go rfl (by rfl) ?_
        go_wp2_with fail
        exact ⟨_, _, _, _, _, _, _, _, _, _, _, _, _, _, _, _, _, _, _, _, _, _, _, _, _, rfl, rfl, HF⟩
    ·
     cases b
     ·
      refine AnyOrder.wpOp_out rfl (by rfl) ?_
      exact hK _ _ ⟨_, _, _, _, _, _, _, _, _, _, _, _, _, _, _, _, _, _, _, _, _, _, _, _, _, rfl, rfl, HF⟩
     ·
      cases q
      ·
       refine AnyOrder.wpOp_out rfl (by rfl) ?_
       exact hK _ _ ⟨_, _, _, _, _, _, _, _, _, _, _, _, _, _, _, _, _, _, _, _, _, _, _, _, _, rfl, rfl, HF⟩
      ·
       have HW : Aside0 ((i' : Int) - 1 = (j : Int)) := ⟨by have hj := (HJ.out (of_decide_eq_true Hq.out)).1; omega⟩
       refine AnyOrder.wpOp_go rfl (by rfl) ?_
       go_wp2_with fail
       rw [HW.out]
       exact ⟨_, _, _, _, _, _, _, _, _, _, _, _, _, _, _, _, _, _, _, _, _, _, _, _, _, rfl, rfl, HF⟩
    ·
     cases b
     ·
      refine AnyOrder.wpOp_out rfl (by rfl) ?_
      exact hK _ _ ⟨_, _, _, _, _, _, _, _, _, _, _, _, _, _, _, _, _, _, _, _, _, _, _, _, _, rfl, rfl, HF⟩
     ·
      cases q
      ·
       refine AnyOrder.wpOp_out rfl (by rfl) ?_
       exact hK _ _ ⟨_, _, _, _, _, _, _, _, _, _, _, _, _, _, _, _, _, _, _, _, _, _, _, _, _, rfl, rfl, HF⟩
      ·
       have hj : j < n ∧ n ≤ 400000 := by have := (HJ.out (of_decide_eq_true Hq.out)).1; have := HKN.out; omega
       refine AnyOrder.wpOp_go rfl (by rfl) ?_
       go_wp2_with fail
       exact ⟨_, _, _, _, _, _, _, _, _, _, _, _, _, _, _, _, _, _, _, _, _, _, _, _, _, rfl, rfl, HF⟩
    ·
     cases b
     ·
      refine AnyOrder.wpOp_out rfl (by rfl) ?_
      exact hK _ _ ⟨_, _, _, _, _, _, _, _, _, _, _, _, _, _, _, _, _, _, _, _, _, _, _, _, _, rfl, rfl, HF⟩
     ·
      cases q
      ·
       refine AnyOrder.wpOp_out rfl (by rfl) ?_
       exact hK _ _ ⟨_, _, _, _, _, _, _, _, _, _, _, _, _, _, _, _, _, _, _, _, _, _, _, _, _, rfl, rfl, HF⟩
      ·
       obtain ⟨ad', e, g0, g1, g2, g3, g4, g5⟩ := node_at HR.out (below_more HB.out (below_more (below_drew1 (Below.refl _ wr)) HF.out)) j y (HJ.out (of_decide_eq_true Hq.out)).2
       cases e
       refine AnyOrder.wpOp_go rfl (by rfl) ?_
       go_wp2_with fail
       exact ⟨_, _, _, _, _, _, _, _, _, _, _, _, _, _, _, _, _, _, _, _, _, _, _, _, _, rfl, rfl, HF⟩
    ·
     cases b
     ·
      refine AnyOrder.wpOp_out rfl (by rfl) ?_
      exact hK _ _ ⟨_, _, _, _, _, _, _, _, _, _, _, _, _, _, _, _, _, _, _, _, _, _, _, _, _, rfl, rfl, HF⟩
     ·
      cases q
      ·
       refine AnyOrder.wpOp_out rfl (by rfl) ?_
       exact hK _ _ ⟨_, _, _, _, _, _, _, _, _, _, _, _, _, _, _, _, _, _, _, _, _, _, _, _, _, rfl, rfl, HF⟩
      ·
       have hxi := HKN.out
       refine AnyOrder.wpOp_go rfl (by rfl) ?_
       go_wp2_with fail
       exact ⟨_, _, _, _, _, _, _, _, _, _, _, _, _, _, _, _, _, _, _, _, _, _, _, _, _, rfl, rfl, HF⟩
    ·
     cases b
     ·
      refine AnyOrder.wpOp_out rfl (by rfl) ?_
      exact hK _ _ ⟨_, _, _, _, _, _, _, _, _, _, _, _, _, _, _, _, _, _, _, _, _, _, _, _, _, rfl, rfl, HF⟩
     ·
      cases q
      ·
       refine AnyOrder.wpOp_out rfl (by rfl) ?_
       exact hK _ _ ⟨_, _, _, _, _, _, _, _, _, _, _, _, _, _, _, _, _, _, _, _, _, _, _, _, _, rfl, rfl, HF⟩
      ·
       obtain ⟨ad', e, g0, g1, g2, g3, g4, g5⟩ := node_at HR.out (below_more HB.out (below_more (below_drew1 (Below.refl _ wr)) HF.out)) i' x Hx.out
       cases e
       refine AnyOrder.wpOp_go rfl (by rfl) ?_
       go_wp2_with fail
       exact ⟨_, _, _, _, _, _, _, _, _, _, _, _, _, _, _, _, _, _, _, _, _, _, _, _, _, rfl, rfl, HF⟩
    ·
     cases b
     ·
      refine AnyOrder.wpOp_out rfl (by rfl) ?_
      exact hK _ _ ⟨_, _, _, _, _, _, _, _, _, _, _, _, _, _, _, _, _, _, _, _, _, _, _, _, _, rfl, rfl, HF⟩
     ·
      cases q
      ·
       refine AnyOrder.wpOp_out rfl (by rfl) ?_
       exact hK _ _ ⟨_, _, _, _, _, _, _, _, _, _, _, _, _, _, _, _, _, _, _, _, _, _, _, _, _, rfl, rfl, HF⟩
      ·
       refine AnyOrder.wpOp_go rfl (by rfl) ?_
       go_wp2_with fail
       refine (redpencilref14_Before.calls y.f0.f0 y.f0.f1 x.f0.f0 x.f0.f1 t V (by rw [jbefore_is, Ht.out])).mono ?_
       rintro e V' ⟨rfl, hb⟩
       exact hK _ _ ⟨_, _, _, _, _, _, _, _, _, _, _, _, _, _, _, _, _, _, _, _, _, _, _, _, _, rfl, rfl, ⟨below_more HF.out hb⟩⟩
    ·
     cases b
     ·
      refine AnyOrder.wpOp_out rfl (by rfl) ?_
      exact hK _ _ ⟨_, _, _, _, _, _, _, _, _, _, _, _, _, _, _, _, _, _, _, _, _, _, _, _, _, rfl, rfl, HF⟩
     ·
      cases q
      ·
       refine AnyOrder.wpOp_go rfl (by rfl) ?_
       go_wp2_with fail
       exact ⟨_, _, _, _, _, _, _, _, _, _, _, _, _, _, _, _, _, _, _, _, _, _, _, _, _, rfl, rfl, HF⟩
      ·
       refine AnyOrder.wpOp_go rfl (by rfl) ?_
       go_wp2_with fail
       exact ⟨_, _, _, _, _, _, _, _, _, _, _, _, _, _, _, _, _, _, _, _, _, _, _, _, _, rfl, rfl, HF⟩
    ·
     cases b
     ·
      refine AnyOrder.wpOp_go rfl (by rfl) ?_
      go_wp2_with fail
      exact ⟨_, _, _, _, _, _, _, _, _, _, _, _, _, _, _, _, _, _, _, _, _, _, _, _, _, rfl, rfl, HF⟩
     ·
      refine AnyOrder.wpOp_go rfl (by rfl) ?_
      go_wp2_with fail
      exact ⟨_, _, _, _, _, _, _, _, _, _, _, _, _, _, _, _, _, _, _, _, _, _, _, _, _, rfl, rfl, HF⟩
   case last =>
    rintro L ac V ⟨l0, l1, l2, l3, l4, l5, l6, l7, l8, l9, l10, l11, l12, l13, l14, l15, l16, l17, l18, l19, l20, l21, l22, l23, l24, rfl, rfl, HF⟩ hr
    obtain ⟨rfl, rfl, rfl, rfl, rfl, rfl, rfl, rfl, rfl, rfl, rfl, rfl, rfl, rfl, rfl, rfl, rfl, rfl, rfl, rfl, rfl, rfl, rfl, rfl, rfl, -⟩ := AnyOrder.alls rfl (by kernel_rfl) hr
    clear hr
    simp only [sel_true, selv_true]
    have HB := Aside0.mk (below_more HB.out (below_more (below_drew1 (Below.refl _ wr)) HF.out))
    have hkk := HKN.out
    cases hs : (!b || (q && !t)) with
    | true =>
     have HEND : Aside0 (r = false) := ⟨by
      rw [← HRES.out]
      refine storeOk_take (i := i' + 1) (HST.out.trans ?_)
      revert hs; cases b <;> cases q <;> cases t <;> simp⟩
     clear hs
     go_wp2
     go_ret
     exact ⟨by rw [HEND.out]; rfl, HB.out⟩
    | false =>
     have HOK : Aside0 (storeOk (l0.take (i' + 1)) = true) := ⟨by rw [HST.out]; revert hs; cases b <;> cases q <;> cases t <;> simp⟩
     clear hs
     go_wp2
     go_roundw
     case rel => exact ⟨i' + 1, by omega, by go_num, HOK, HB⟩
     case measure => simp [intOf]; omega
  ·
   obtain rfl : i' = n := by omega
   rw [List.take_of_length_le (Nat.le_of_eq Hn.out), HRES.out] at HOK
   have HEND : Aside0 (r = true) := ⟨HOK.out⟩
   go_wp2
   go_ret
   exact ⟨by rw [HEND.out]; rfl, HB.out⟩
end Go.Proofs.YtmbndijbpgobeaaGreat.PWalk
end
section
namespace Go.Proofs.YtmbndijbpgobeaaGreat.PWalk
open Go.RowKit Go.Proofs.YtmbndijbpgobeaaGreatW.PrintWords Go.Proofs.YtmbndijbpgobeaaGreatW.PrintLast Go.Proofs.YtmbndijbpgobeaaGreatW.PrintMore
attribute [local go_sem] max2_int max_two
set_option linter.unusedVariables false
set_option linter.unusedSimpArgs false
def redpencilref15_Latest.l0 : Nat → List (S53) → Int → Int → Option (Int)
 | 0, _, _, _ => none
 | k + 1, x0, x3, x4 => if x4 < (x0.length : Int) then ((redpencilref14_Store.f x0).bind fun t248 => (if t248 = true then (if 0 ≤ x4 then (redpencilref15_Latest.l0 k x0 (mx x3 ((rd_T53 x0 x4).f2)) (wrap64 (x4 + 1))) else (none)) else (some x3))) else (some x3)
def redpencilref15_Latest.f (k : Nat) (l0 : List (S53)) : Option (Int) := redpencilref15_Latest.l0 k l0 0 0
set_option maxHeartbeats 8000000 in
set_option maxRecDepth 100000 in
theorem redpencilref15_Latest.calls (k : Nat) (A0 : Option Addr) (c0 : Nat) (l0 : List (S53)) (r : Int) (w : World) (hr0 : Kd.C k53 w A0 l0.length l0) (hc0 : l0.length ≤ c0) (h : redpencilref15_Latest.f k l0 = some r) :
  Calls Tryz.prog 24 #[.slice A0 l0.length c0] w fun e w' => e = .returned (.int .i64 r) ∧ Below w.heap.size w w' := by
 have HR0 := Aside0.mk hr0
 have HC0 := Aside0.mk hc0
 clear hr0 hc0
 have HB := Aside0.mk (Below.refl w.heap.size w)
 have H : (redpencilref15_Latest.l0 k l0 0 0) = some r := h
 clear h
 have H' := Aside0.mk H
 clear H
 go_enter Tryz.func24, Tryz.ntmps24
 go_wp2
 go_loopg [3, 4] k (fun kq v3 v4 w' => ∃ (x3_1 : Int) (x4_1 : Int), v3 = .int .i64 x3_1 ∧ v4 = .int .i64 x4_1 ∧ Aside0 (redpencilref15_Latest.l0 kq l0 x3_1 x4_1 = some r) ∧ Aside0 (kq ≤ k) ∧ Aside0 (Below w.heap.size w w'))
 case atStart => exact ⟨(0), (0), (by first | rfl | (simp; done) | (simp [*]; done)), (by first | rfl | (simp; done) | (simp [*]; done)), H', ⟨Nat.le_refl _⟩, ⟨by repeat (first | (with_reducible first | exact HB.out | apply below_alloc | apply pw_below_drewN | apply below_drew1) | exact HB.out)⟩⟩
 case round =>
  clear H'
  obtain ⟨x3_1, x4_1, rfl, rfl, HA, HK1, HB⟩ := hrel
  cases gk with
  | zero => exact absurd HA.out (by simp [redpencilref15_Latest.l0])
  | succ k1 =>
   have H := HA.out
   clear HA
   simp only [redpencilref15_Latest.l0] at H
   by_cases c2 : x4_1 < (l0.length : Int)
   ·
    rw [if_pos c2] at H
    have c2b0 : decide (x4_1 < (l0.length : Int)) = true := decide_eq_true c2
    clear c2
    replace H := Option.bind_eq_some_iff.mp H
    obtain ⟨t248, A30, H⟩ := H
    replace H : (if t248 = true then (if 0 ≤ x4_1 then (redpencilref15_Latest.l0 k1 l0 (mx x3_1 ((rd_T53 l0 x4_1).f2)) (wrap64 (x4_1 + 1))) else (none)) else (some x3_1)) = some r := H
    have A3 := Aside0.mk A30
    clear A30
    by_cases c4 : t248 = true
    ·
     subst c4
     have H1 : (if 0 ≤ x4_1 then (redpencilref15_Latest.l0 k1 l0 (mx x3_1 ((rd_T53 l0 x4_1).f2)) (wrap64 (x4_1 + 1))) else (none)) = some r := by rw [if_pos rfl] at H; exact H
     clear H
     have H := H1
     clear H1
     by_cases c5 : 0 ≤ x4_1
     ·
      rw [if_pos c5] at H
      have c5b0 : decide (0 ≤ x4_1) = true := decide_eq_true c5
      clear c5
      obtain ⟨ji6, hji6⟩ : ∃ j_ : Int, (mx x3_1 ((rd_T53 l0 x4_1).f2)) = j_ := ⟨_, rfl⟩
      replace H : (redpencilref15_Latest.l0 k1 l0 ji6 (wrap64 (x4_1 + 1))) = some r := by first | (rw [hji6] at H; exact H) | (simp only [hji6] at H ⊢; exact H)
      (try rw [hji6] at A3)
      have hji6_ : (if x3_1 < ((rd_T53 l0 x4_1).f2) then ((rd_T53 l0 x4_1).f2) else x3_1) = ji6 := hji6
      have H' := Aside0.mk H
      clear H
      go_wp2_with (first | (go_at_call 26; (with_reducible refine (redpencilref14_Store.calls _ _ l0 true _ ?side1 ?side2 A3.out).mono ?_); (case side1 => repeat (first | exact (Kd.C_below HR0.out HB.out) | (with_reducible refine Kd.C_alloc ?_ _) | (with_reducible refine Kd.C_drewN ?_ _) | (with_reducible refine Kd.C_drew ?_))); (case side2 => exact HC0.out); rintro e w7 ⟨rfl, hb⟩; have n0_ := Aside0.mk (below_step (by repeat (first | (with_reducible first | exact HB.out | apply below_alloc | apply pw_below_drewN | apply below_drew1) | exact HB.out)) hb); clear HB; have HB := n0_; clear n0_; (try clear hb); (try clear hb2); (try clear hk); (try clear hi); have p249 : 0 ≤ (x4_1 : Int) := of_decide_eq_true (by first | (with_reducible assumption) | assumption); have q249 : x4_1 < (l0.length : Int) := of_decide_eq_true (by first | (with_reducible assumption) | assumption); obtain ⟨ad249, e249, hx249_0, hx249_1, hx249_2, hx249_3, hx249_4, hx249_5⟩ := at_T53 HR0.out x4_1 p249 q249; cases e249; replace hx249_0 := (HB.out.cell (World.block_lt_of_cell? w _ hx249_0)).trans hx249_0; replace hx249_1 := (HB.out.cell (World.block_lt_of_cell? w _ hx249_1)).trans hx249_1; replace hx249_2 := (HB.out.cell (World.block_lt_of_cell? w _ hx249_2)).trans hx249_2; replace hx249_3 := (HB.out.cell (World.block_lt_of_cell? w _ hx249_3)).trans hx249_3; replace hx249_4 := (HB.out.cell (World.block_lt_of_cell? w _ hx249_4)).trans hx249_4; replace hx249_5 := (HB.out.cell (World.block_lt_of_cell? w _ hx249_5)).trans hx249_5; replace p249 := eq_true p249; replace q249 := eq_true q249))
      go_roundg k1
      case measure => have := HK1.out; omega
      case rel => exact ⟨(ji6), (wrap64 (x4_1 + 1)), (by first | rfl | (simp; done) | (simp only [← hji6] <;> (first | rfl | simp)) | (simp [*]; done)), (by first | rfl | (simp; done) | (simp [*]; done)), H', ⟨by have := HK1.out; omega⟩, ⟨by repeat (first | (with_reducible first | exact HB.out | apply below_alloc | apply pw_below_drewN | apply below_drew1) | exact HB.out)⟩⟩
     ·
      rw [if_neg c5] at H
      exact absurd H (by simp)
    ·
     replace c4 := Bool.eq_false_iff.mpr c4
     subst c4
     have H1 : (some x3_1) = some r := by rw [if_neg (show ¬ (false = true) by decide)] at H; exact H
     clear H
     have H := H1
     clear H1
     obtain rfl := Option.some.inj H
     go_wp2_with (first | (go_at_call 26; (with_reducible refine (redpencilref14_Store.calls _ _ l0 false _ ?side1 ?side2 A3.out).mono ?_); (case side1 => repeat (first | exact (Kd.C_below HR0.out HB.out) | (with_reducible refine Kd.C_alloc ?_ _) | (with_reducible refine Kd.C_drewN ?_ _) | (with_reducible refine Kd.C_drew ?_))); (case side2 => exact HC0.out); rintro e w8 ⟨rfl, hb⟩; have n0_ := Aside0.mk (below_step (by repeat (first | (with_reducible first | exact HB.out | apply below_alloc | apply pw_below_drewN | apply below_drew1) | exact HB.out)) hb); clear HB; have HB := n0_; clear n0_; (try clear hb); (try clear hb2); (try clear hk); (try clear hi)))
     go_ret
     exact ⟨by first | rfl | (simp [errW_none, errW_some] <;> rfl) | (simp [*, errW_none, errW_some] <;> rfl), by repeat (first | (with_reducible first | exact HB.out | apply below_alloc | apply pw_below_drewN | apply below_drew1) | exact HB.out)⟩
   ·
    rw [if_neg c2] at H
    have c2b0 : decide (x4_1 < (l0.length : Int)) = false := decide_eq_false c2
    clear c2
    obtain rfl := Option.some.inj H
    go_wp2
    go_ret
    exact ⟨by first | rfl | (simp [errW_none, errW_some] <;> rfl) | (simp [*, errW_none, errW_some] <;> rfl), by repeat (first | (with_reducible first | exact HB.out | apply below_alloc | apply pw_below_drewN | apply below_drew1) | exact HB.out)⟩
end Go.Proofs.YtmbndijbpgobeaaGreat.PWalk
end
section
namespace Go.Proofs.YtmbndijbpgobeaaGreat.PWalk
open Go.RowKit Go.Proofs.YtmbndijbpgobeaaGreatW.PrintWords Go.Proofs.YtmbndijbpgobeaaGreatW.PrintLast Go.Proofs.YtmbndijbpgobeaaGreatW.PrintMore
attribute [local go_sem] max2_int max_two
set_option linter.unusedVariables false
set_option linter.unusedSimpArgs false
def redpencilref15_Same.l0 : Nat → List Int → List Int → Int → Option (Bool)
 | 0, _, _, _ => none
 | k + 1, x0, x1, x5 => if x5 < (x0.length : Int) then (if 0 ≤ x5 then (if x5 < (x1.length : Int) then (if (rd x0 x5) = (rd x1 x5) then (redpencilref15_Same.l0 k x0 x1 (wrap64 (x5 + 1))) else (some false)) else (none)) else (none)) else (some true)
def redpencilref15_Same.f (k : Nat) (l0 : List Int) (l1 : List Int) : Option (Bool) := if (l0.length : Int) = (l1.length : Int) then (redpencilref15_Same.l0 k l0 l1 0) else (some false)
set_option maxHeartbeats 8000000 in
set_option maxRecDepth 100000 in
theorem redpencilref15_Same.calls (k : Nat) (A0 : Option Addr) (c0 : Nat) (l0 : List Int) (A1 : Option Addr) (c1 : Nat) (l1 : List Int) (r : Bool) (w : World) (hr0 : Kd.C (Kd.int .i32) w A0 l0.length l0) (hc0 : l0.length ≤ c0) (hr1 : Kd.C (Kd.int .i32) w A1 l1.length l1) (hc1 : l1.length ≤ c1) (h : redpencilref15_Same.f k l0 l1 = some r) :
  Calls Tryz.prog 29 #[.slice A0 l0.length c0, .slice A1 l1.length c1] w fun e w' => e = .returned (.bool r) ∧ Drawn0 w w' := by
 have HR0 := Aside0.mk hr0
 have HC0 := Aside0.mk hc0
 clear hr0 hc0
 have HR1 := Aside0.mk hr1
 have HC1 := Aside0.mk hc1
 clear hr1 hc1
 have H : (if (l0.length : Int) = (l1.length : Int) then (redpencilref15_Same.l0 k l0 l1 0) else (some false)) = some r := h
 clear h
 by_cases c3 : (l0.length : Int) = (l1.length : Int)
 ·
  rw [if_pos c3] at H
  have c3b0 : ((l0.length : Int) == (l1.length : Int)) = true := beq_iff_eq.mpr c3
  have c3b1 : ((l0.length : Int) != (l1.length : Int)) = false := bne_eq_false_iff_eq.mpr c3
  have c3b2 : (l0.length == l1.length) = true := by first | simpa using c3 | (simp at c3 ⊢; omega)
  clear c3
  have H' := Aside0.mk H
  clear H
  go_enter Tryz.func29, Tryz.ntmps29
  go_wp2
  repeat (go_quiet (fail); try go_wp2)
  go_loopg [5] k (fun kq v5 w' => ∃ (x5_1 : Int), v5 = .int .i64 x5_1 ∧ Aside0 (redpencilref15_Same.l0 kq l0 l1 x5_1 = some r) ∧ Aside0 (kq ≤ k) ∧ Drawn0 w w')
  case atStart => exact ⟨(0), (by first | rfl | (simp; done) | (simp [*]; done)), H', ⟨Nat.le_refl _⟩, by repeat (first | exact Drawn0.refl _ | apply Drawn0.step)⟩
  case round =>
   clear H'
   try clear c1
   try clear c2
   try clear p2
   try clear c3
   try clear c3b0
   try clear c3b1
   try clear c3b2
   obtain ⟨x5_1, rfl, HA, HK1, ⟨m1, rfl⟩⟩ := hrel
   cases gk with
   | zero => exact absurd HA.out (by simp [redpencilref15_Same.l0])
   | succ k1 =>
    have H := HA.out
    clear HA
    simp only [redpencilref15_Same.l0] at H
    by_cases c4 : x5_1 < (l0.length : Int)
    ·
     rw [if_pos c4] at H
     have c4b0 : decide (x5_1 < (l0.length : Int)) = true := decide_eq_true c4
     clear c4
     by_cases c5 : 0 ≤ x5_1
     ·
      rw [if_pos c5] at H
      have c5b0 : decide (0 ≤ x5_1) = true := decide_eq_true c5
      clear c5
      by_cases c6 : x5_1 < (l1.length : Int)
      ·
       rw [if_pos c6] at H
       have c6b0 : decide (x5_1 < (l1.length : Int)) = true := decide_eq_true c6
       clear c6
       by_cases c7 : (rd l0 x5_1) = (rd l1 x5_1)
       ·
        rw [if_pos c7] at H
        have c7b0 : ((rd l0 x5_1) == (rd l1 x5_1)) = true := beq_iff_eq.mpr c7
        have c7b1 : ((rd l0 x5_1) != (rd l1 x5_1)) = false := bne_eq_false_iff_eq.mpr c7
        clear c7
        have H' := Aside0.mk H
        clear H
        have p275 : 0 ≤ (x5_1 : Int) := of_decide_eq_true (by first | (with_reducible assumption) | assumption)
        have q275 : x5_1 < (l0.length : Int) := of_decide_eq_true (by first | (with_reducible assumption) | assumption)
        obtain ⟨ad275, e275, hx275_0⟩ := Kd.at_int HR0.out x5_1 p275 q275
        cases e275
        replace p275 := eq_true p275
        replace q275 := eq_true q275
        have p276 : 0 ≤ (x5_1 : Int) := of_decide_eq_true (by first | (with_reducible assumption) | assumption)
        have q276 : x5_1 < (l1.length : Int) := of_decide_eq_true (by first | (with_reducible assumption) | assumption)
        obtain ⟨ad276, e276, hx276_0⟩ := Kd.at_int HR1.out x5_1 p276 q276
        cases e276
        replace p276 := eq_true p276
        replace q276 := eq_true q276
        go_wp2
        repeat (go_quiet (fail); try go_wp2)
        go_roundg k1
        case measure => have := HK1.out; omega
        case rel => exact ⟨(wrap64 (x5_1 + 1)), (by first | rfl | (simp; done) | (simp [*]; done)), H', ⟨by have := HK1.out; omega⟩, by repeat (first | exact Drawn0.refl _ | apply Drawn0.step)⟩
       ·
        rw [if_neg c7] at H
        have c7b0 : ((rd l0 x5_1) == (rd l1 x5_1)) = false := beq_eq_false_iff_ne.mpr c7
        have c7b1 : ((rd l0 x5_1) != (rd l1 x5_1)) = true := bne_iff_ne.mpr c7
        obtain rfl := Option.some.inj H
        have p275 : 0 ≤ (x5_1 : Int) := of_decide_eq_true (by first | (with_reducible assumption) | assumption)
        have q275 : x5_1 < (l0.length : Int) := of_decide_eq_true (by first | (with_reducible assumption) | assumption)
        obtain ⟨ad275, e275, hx275_0⟩ := Kd.at_int HR0.out x5_1 p275 q275
        cases e275
        replace p275 := eq_true p275
        replace q275 := eq_true q275
        have p276 : 0 ≤ (x5_1 : Int) := of_decide_eq_true (by first | (with_reducible assumption) | assumption)
        have q276 : x5_1 < (l1.length : Int) := of_decide_eq_true (by first | (with_reducible assumption) | assumption)
        obtain ⟨ad276, e276, hx276_0⟩ := Kd.at_int HR1.out x5_1 p276 q276
        cases e276
        replace p276 := eq_true p276
        replace q276 := eq_true q276
        go_wp2
        repeat (go_quiet (fail); try go_wp2)
        go_ret
        exact ⟨by first | rfl | (simp; done) | (simp [*]; done), by repeat (first | exact Drawn0.refl _ | apply Drawn0.step)⟩
      ·
       rw [if_neg c6] at H
       exact absurd H (by simp)
     ·
      rw [if_neg c5] at H
      exact absurd H (by simp)
    ·
     rw [if_neg c4] at H
     have c4b0 : decide (x5_1 < (l0.length : Int)) = false := decide_eq_false c4
     clear c4
     obtain rfl := Option.some.inj H
     go_wp2
     repeat (go_quiet (fail); try go_wp2)
     go_ret
     exact ⟨by first | rfl | (simp; done) | (simp [*]; done), by repeat (first | exact Drawn0.refl _ | apply Drawn0.step)⟩
 ·
  rw [if_neg c3] at H
  have c3b0 : ((l0.length : Int) == (l1.length : Int)) = false := beq_eq_false_iff_ne.mpr c3
  have c3b1 : ((l0.length : Int) != (l1.length : Int)) = true := bne_iff_ne.mpr c3
  have c3b2 : (l0.length == l1.length) = false := by first | simpa using c3 | (simp at c3 ⊢; omega)
  obtain rfl := Option.some.inj H
  go_enter Tryz.func29, Tryz.ntmps29
  go_wp2
  repeat (go_quiet (fail); try go_wp2)
  go_ret
  exact ⟨by first | rfl | (simp; done) | (simp [*]; done), by repeat (first | exact Drawn0.refl _ | apply Drawn0.step)⟩
end Go.Proofs.YtmbndijbpgobeaaGreat.PWalk
end
section
namespace Go.Proofs.YtmbndijbpgobeaaGreat.PWalk
open Go.RowKit Go.Proofs.YtmbndijbpgobeaaGreatW.PrintWords Go.Proofs.YtmbndijbpgobeaaGreatW.PrintLast Go.Proofs.YtmbndijbpgobeaaGreatW.PrintMore
attribute [local go_sem] max2_int max_two
set_option linter.unusedVariables false
set_option linter.unusedSimpArgs false
def redpencilref14_first.f (a0_0 : Int) (a0_1 : Int) (a0_2 : Int) (a0_3 : Int) (a0_4 : Int) (a0_5 : Int) (a1_0 : Int) (a1_1 : Int) (a1_2 : Int) (a1_3 : Int) (a1_4 : Int) (a1_5 : Int) : Option (Bool) := if a0_4 > a1_4 then (some true) else (if a0_4 = a1_4 then ((redpencilref14_Before.f a1_0 a1_1 a0_0 a0_1).bind fun t263 => (some t263)) else (some false))
set_option maxHeartbeats 8000000 in
set_option maxRecDepth 100000 in
theorem redpencilref14_first.calls (a0_0 : Int) (a0_1 : Int) (a0_2 : Int) (a0_3 : Int) (a0_4 : Int) (a0_5 : Int) (a1_0 : Int) (a1_1 : Int) (a1_2 : Int) (a1_3 : Int) (a1_4 : Int) (a1_5 : Int) (r : Bool) (w : World) (h : redpencilref14_first.f a0_0 a0_1 a0_2 a0_3 a0_4 a0_5 a1_0 a1_1 a1_2 a1_3 a1_4 a1_5 = some r) :
  Calls Tryz.prog 103 #[.agg #[.int .i64 a0_0, .int .i64 a0_1, .int .i64 a0_2, .int .i64 a0_3, .int .i64 a0_4, .int .i32 a0_5], .agg #[.int .i64 a1_0, .int .i64 a1_1, .int .i64 a1_2, .int .i64 a1_3, .int .i64 a1_4, .int .i32 a1_5]] w fun e w' => e = .returned (.bool r) ∧ Below w.heap.size w w' := by
 have hu53 := Tryz.underlying53
 have hu25 := Tryz.underlying25
 have HB := Aside0.mk (Below.refl w.heap.size w)
 have H : (if a0_4 > a1_4 then (some true) else (if a0_4 = a1_4 then ((redpencilref14_Before.f a1_0 a1_1 a0_0 a0_1).bind fun t263 => (some t263)) else (some false))) = some r := h
 clear h
 by_cases c3 : a0_4 > a1_4
 ·
  rw [if_pos c3] at H
  have c3b0 : decide (a1_4 < a0_4) = true := decide_eq_true c3
  clear c3
  obtain rfl := Option.some.inj H
  go_enter Tryz.func103, Tryz.ntmps103
  go_wp2_with (first | ((with_reducible refine gate_dst (N := 2) rfl ?_); refine box_event ?hg (N := 2) ?hd (cs := #[.int .i64 a0_0, .int .i64 a0_1, .int .i64 a0_2, .int .i64 a0_3, .int .i64 a0_4, .int .i32 a0_5]) (t := 53) ?hr ?_; (case hd => rfl); (case hg => rfl); (case hr => first | (go_simp; done) | (go_simp; rfl)); intro gb261 hg w4 hbox hb; have n0_ := Aside0.mk (below_step (by repeat (first | (with_reducible first | exact HB.out | apply below_alloc | apply pw_below_drewN | apply below_drew1) | exact HB.out)) hb); have n1_ := Aside0.mk (hbox); have n2_ := Aside0.mk ((by rw [hg]; exact (below_size (by repeat (first | (with_reducible first | exact HB.out | apply below_alloc | apply pw_below_drewN | apply below_drew1) | exact HB.out))) : w.heap.size ≤ gb261)); have n3_ := Aside0.mk ((by rw [hg]; exact (below_size (by repeat (first | (with_reducible first | exact HB.out | apply below_alloc | apply pw_below_drewN | apply below_drew1) | exact HB.out))) : w.heap.size ≤ gb261)); clear HB; have HB := n0_; have BK261 := n1_; have GW261 := n2_; have GE261 := n3_; clear n0_ n1_ n2_ n3_; clear hb hbox hg) | ((with_reducible refine gate_dst (N := 3) rfl ?_); refine box_event ?hg (N := 3) ?hd (cs := #[.int .i64 a1_0, .int .i64 a1_1, .int .i64 a1_2, .int .i64 a1_3, .int .i64 a1_4, .int .i32 a1_5]) (t := 53) ?hr ?_; (case hd => rfl); (case hg => rfl); (case hr => first | (go_simp; done) | (go_simp; rfl)); intro gb262 hg w5 hbox hb; have n0_ := Aside0.mk (blk_below (g := gb261) (o := .cells #[.int .i64 a0_0, .int .i64 a0_1, .int .i64 a0_2, .int .i64 a0_3, .int .i64 a0_4, .int .i32 a0_5] 53 (0, 0)) (by (with_reducible repeat (first | refine blk_drewN ?_ _ | refine blk_drew ?_ | refine blk_alloc ?_ _)); exact BK261.out) hb); have n1_ := Aside0.mk (below_step (by repeat (first | (with_reducible first | exact HB.out | apply below_alloc | apply pw_below_drewN | apply below_drew1 | refine below_set ?_ GE261.out) | exact HB.out)) hb); have n2_ := Aside0.mk (hbox); have n3_ := Aside0.mk ((by rw [hg]; exact (below_size (by repeat (first | (with_reducible first | exact HB.out | apply below_alloc | apply pw_below_drewN | apply below_drew1 | refine below_set ?_ GE261.out) | exact HB.out))) : w.heap.size ≤ gb262)); have n4_ := Aside0.mk ((by rw [hg]; exact (below_size (by repeat (first | (with_reducible first | exact HB.out | apply below_alloc | apply pw_below_drewN | apply below_drew1 | refine below_set ?_ GE261.out) | exact HB.out))) : w.heap.size ≤ gb262)); have n5_ := Aside0.mk ((by rw [hg]; exact Nat.ne_of_lt (blk_lt (g := gb261) (o := .cells #[.int .i64 a0_0, .int .i64 a0_1, .int .i64 a0_2, .int .i64 a0_3, .int .i64 a0_4, .int .i32 a0_5] 53 (0, 0)) (by (with_reducible repeat (first | refine blk_drewN ?_ _ | refine blk_drew ?_ | refine blk_alloc ?_ _)); exact BK261.out)) : gb261 ≠ gb262)); have n6_ := Aside0.mk ((by rw [hg]; exact Nat.ne_of_gt (blk_lt (g := gb261) (o := .cells #[.int .i64 a0_0, .int .i64 a0_1, .int .i64 a0_2, .int .i64 a0_3, .int .i64 a0_4, .int .i32 a0_5] 53 (0, 0)) (by (with_reducible repeat (first | refine blk_drewN ?_ _ | refine blk_drew ?_ | refine blk_alloc ?_ _)); exact BK261.out)) : gb262 ≠ gb261)); clear BK261; clear HB; have BK261 := n0_; have HB := n1_; have BK262 := n2_; have GW262 := n3_; have GE262 := n4_; have NB261_262 := n5_; have NB262_261 := n6_; clear n0_ n1_ n2_ n3_ n4_ n5_ n6_; clear hb hbox hg; have hnb6 := NB261_262.out; have hnc6 := NB262_261.out; have hcz7_0 : w5.cell? ⟨gb261, 0, none⟩ = some (.int .i64 a0_0) := (blk_cell BK261.out 0).trans rfl; have hcz7_1 : w5.cell? ⟨gb261, 1, none⟩ = some (.int .i64 a0_1) := (blk_cell BK261.out 1).trans rfl; have hcz7_2 : w5.cell? ⟨gb261, 2, none⟩ = some (.int .i64 a0_2) := (blk_cell BK261.out 2).trans rfl; have hcz7_3 : w5.cell? ⟨gb261, 3, none⟩ = some (.int .i64 a0_3) := (blk_cell BK261.out 3).trans rfl; have hcz7_4 : w5.cell? ⟨gb261, 4, none⟩ = some (.int .i64 a0_4) := (blk_cell BK261.out 4).trans rfl; have hcz7_5 : w5.cell? ⟨gb261, 5, none⟩ = some (.int .i32 a0_5) := (blk_cell BK261.out 5).trans rfl; have hfz7_0 := blk_frozen BK261.out 0; have hfz7_1 := blk_frozen BK261.out 1; have hfz7_2 := blk_frozen BK261.out 2; have hfz7_3 := blk_frozen BK261.out 3; have hfz7_4 := blk_frozen BK261.out 4; have hfz7_5 := blk_frozen BK261.out 5; have hcz8_0 : w5.cell? ⟨gb262, 0, none⟩ = some (.int .i64 a1_0) := (blk_cell BK262.out 0).trans rfl; have hcz8_1 : w5.cell? ⟨gb262, 1, none⟩ = some (.int .i64 a1_1) := (blk_cell BK262.out 1).trans rfl; have hcz8_2 : w5.cell? ⟨gb262, 2, none⟩ = some (.int .i64 a1_2) := (blk_cell BK262.out 2).trans rfl; have hcz8_3 : w5.cell? ⟨gb262, 3, none⟩ = some (.int .i64 a1_3) := (blk_cell BK262.out 3).trans rfl; have hcz8_4 : w5.cell? ⟨gb262, 4, none⟩ = some (.int .i64 a1_4) := (blk_cell BK262.out 4).trans rfl; have hcz8_5 : w5.cell? ⟨gb262, 5, none⟩ = some (.int .i32 a1_5) := (blk_cell BK262.out 5).trans rfl; have hfz8_0 := blk_frozen BK262.out 0; have hfz8_1 := blk_frozen BK262.out 1; have hfz8_2 := blk_frozen BK262.out 2; have hfz8_3 := blk_frozen BK262.out 3; have hfz8_4 := blk_frozen BK262.out 4; have hfz8_5 := blk_frozen BK262.out 5))
  go_ret
  exact ⟨by first | rfl | (simp [errW_none, errW_some] <;> rfl) | (simp [*, errW_none, errW_some] <;> rfl), by repeat (first | (with_reducible first | exact HB.out | apply below_alloc | apply pw_below_drewN | apply below_drew1 | refine below_set ?_ GE261.out | refine below_set ?_ GE262.out) | exact HB.out)⟩
 ·
  rw [if_neg c3] at H
  have c3b0 : decide (a1_4 < a0_4) = false := decide_eq_false c3
  clear c3
  by_cases c9 : a0_4 = a1_4
  ·
   rw [if_pos c9] at H
   have c9b0 : (a0_4 == a1_4) = true := beq_iff_eq.mpr c9
   have c9b1 : (a0_4 != a1_4) = false := bne_eq_false_iff_eq.mpr c9
   clear c9
   replace H := Option.bind_eq_some_iff.mp H
   obtain ⟨t263, A100, H⟩ := H
   replace H : (some t263) = some r := H
   have A10 := Aside0.mk A100
   clear A100
   obtain rfl := Option.some.inj H
   go_enter Tryz.func103, Tryz.ntmps103
   go_wp2_with (first | ((with_reducible refine gate_dst (N := 2) rfl ?_); refine box_event ?hg (N := 2) ?hd (cs := #[.int .i64 a0_0, .int .i64 a0_1, .int .i64 a0_2, .int .i64 a0_3, .int .i64 a0_4, .int .i32 a0_5]) (t := 53) ?hr ?_; (case hd => rfl); (case hg => rfl); (case hr => first | (go_simp; done) | (go_simp; rfl)); intro gb261 hg w11 hbox hb; have n0_ := Aside0.mk (below_step (by repeat (first | (with_reducible first | exact HB.out | apply below_alloc | apply pw_below_drewN | apply below_drew1) | exact HB.out)) hb); have n1_ := Aside0.mk (hbox); have n2_ := Aside0.mk ((by rw [hg]; exact (below_size (by repeat (first | (with_reducible first | exact HB.out | apply below_alloc | apply pw_below_drewN | apply below_drew1) | exact HB.out))) : w.heap.size ≤ gb261)); have n3_ := Aside0.mk ((by rw [hg]; exact (below_size (by repeat (first | (with_reducible first | exact HB.out | apply below_alloc | apply pw_below_drewN | apply below_drew1) | exact HB.out))) : w.heap.size ≤ gb261)); clear HB; have HB := n0_; have BK261 := n1_; have GW261 := n2_; have GE261 := n3_; clear n0_ n1_ n2_ n3_; clear hb hbox hg) | ((with_reducible refine gate_dst (N := 3) rfl ?_); refine box_event ?hg (N := 3) ?hd (cs := #[.int .i64 a1_0, .int .i64 a1_1, .int .i64 a1_2, .int .i64 a1_3, .int .i64 a1_4, .int .i32 a1_5]) (t := 53) ?hr ?_; (case hd => rfl); (case hg => rfl); (case hr => first | (go_simp; done) | (go_simp; rfl)); intro gb262 hg w12 hbox hb; have n0_ := Aside0.mk (blk_below (g := gb261) (o := .cells #[.int .i64 a0_0, .int .i64 a0_1, .int .i64 a0_2, .int .i64 a0_3, .int .i64 a0_4, .int .i32 a0_5] 53 (0, 0)) (by (with_reducible repeat (first | refine blk_drewN ?_ _ | refine blk_drew ?_ | refine blk_alloc ?_ _)); exact BK261.out) hb); have n1_ := Aside0.mk (below_step (by repeat (first | (with_reducible first | exact HB.out | apply below_alloc | apply pw_below_drewN | apply below_drew1 | refine below_set ?_ GE261.out) | exact HB.out)) hb); have n2_ := Aside0.mk (hbox); have n3_ := Aside0.mk ((by rw [hg]; exact (below_size (by repeat (first | (with_reducible first | exact HB.out | apply below_alloc | apply pw_below_drewN | apply below_drew1 | refine below_set ?_ GE261.out) | exact HB.out))) : w.heap.size ≤ gb262)); have n4_ := Aside0.mk ((by rw [hg]; exact (below_size (by repeat (first | (with_reducible first | exact HB.out | apply below_alloc | apply pw_below_drewN | apply below_drew1 | refine below_set ?_ GE261.out) | exact HB.out))) : w.heap.size ≤ gb262)); have n5_ := Aside0.mk ((by rw [hg]; exact Nat.ne_of_lt (blk_lt (g := gb261) (o := .cells #[.int .i64 a0_0, .int .i64 a0_1, .int .i64 a0_2, .int .i64 a0_3, .int .i64 a0_4, .int .i32 a0_5] 53 (0, 0)) (by (with_reducible repeat (first | refine blk_drewN ?_ _ | refine blk_drew ?_ | refine blk_alloc ?_ _)); exact BK261.out)) : gb261 ≠ gb262)); have n6_ := Aside0.mk ((by rw [hg]; exact Nat.ne_of_gt (blk_lt (g := gb261) (o := .cells #[.int .i64 a0_0, .int .i64 a0_1, .int .i64 a0_2, .int .i64 a0_3, .int .i64 a0_4, .int .i32 a0_5] 53 (0, 0)) (by (with_reducible repeat (first | refine blk_drewN ?_ _ | refine blk_drew ?_ | refine blk_alloc ?_ _)); exact BK261.out)) : gb262 ≠ gb261)); clear BK261; clear HB; have BK261 := n0_; have HB := n1_; have BK262 := n2_; have GW262 := n3_; have GE262 := n4_; have NB261_262 := n5_; have NB262_261 := n6_; clear n0_ n1_ n2_ n3_ n4_ n5_ n6_; clear hb hbox hg; have hnb13 := NB261_262.out; have hnc13 := NB262_261.out; have hcz14_0 : w12.cell? ⟨gb261, 0, none⟩ = some (.int .i64 a0_0) := (blk_cell BK261.out 0).trans rfl; have hcz14_1 : w12.cell? ⟨gb261, 1, none⟩ = some (.int .i64 a0_1) := (blk_cell BK261.out 1).trans rfl; have hcz14_2 : w12.cell? ⟨gb261, 2, none⟩ = some (.int .i64 a0_2) := (blk_cell BK261.out 2).trans rfl; have hcz14_3 : w12.cell? ⟨gb261, 3, none⟩ = some (.int .i64 a0_3) := (blk_cell BK261.out 3).trans rfl; have hcz14_4 : w12.cell? ⟨gb261, 4, none⟩ = some (.int .i64 a0_4) := (blk_cell BK261.out 4).trans rfl; have hcz14_5 : w12.cell? ⟨gb261, 5, none⟩ = some (.int .i32 a0_5) := (blk_cell BK261.out 5).trans rfl; have hfz14_0 := blk_frozen BK261.out 0; have hfz14_1 := blk_frozen BK261.out 1; have hfz14_2 := blk_frozen BK261.out 2; have hfz14_3 := blk_frozen BK261.out 3; have hfz14_4 := blk_frozen BK261.out 4; have hfz14_5 := blk_frozen BK261.out 5; have hcz15_0 : w12.cell? ⟨gb262, 0, none⟩ = some (.int .i64 a1_0) := (blk_cell BK262.out 0).trans rfl; have hcz15_1 : w12.cell? ⟨gb262, 1, none⟩ = some (.int .i64 a1_1) := (blk_cell BK262.out 1).trans rfl; have hcz15_2 : w12.cell? ⟨gb262, 2, none⟩ = some (.int .i64 a1_2) := (blk_cell BK262.out 2).trans rfl; have hcz15_3 : w12.cell? ⟨gb262, 3, none⟩ = some (.int .i64 a1_3) := (blk_cell BK262.out 3).trans rfl; have hcz15_4 : w12.cell? ⟨gb262, 4, none⟩ = some (.int .i64 a1_4) := (blk_cell BK262.out 4).trans rfl; have hcz15_5 : w12.cell? ⟨gb262, 5, none⟩ = some (.int .i32 a1_5) := (blk_cell BK262.out 5).trans rfl; have hfz15_0 := blk_frozen BK262.out 0; have hfz15_1 := blk_frozen BK262.out 1; have hfz15_2 := blk_frozen BK262.out 2; have hfz15_3 := blk_frozen BK262.out 3; have hfz15_4 := blk_frozen BK262.out 4; have hfz15_5 := blk_frozen BK262.out 5) | (go_at_call 58; (with_reducible refine (redpencilref14_Before.calls a1_0 a1_1 a0_0 a0_1 t263 _ A10.out).mono ?_); rintro e w16 ⟨rfl, hb⟩; have n0_ := Aside0.mk (blk_below (g := gb261) (o := .cells #[.int .i64 a0_0, .int .i64 a0_1, .int .i64 a0_2, .int .i64 a0_3, .int .i64 a0_4, .int .i32 a0_5] 53 (0, 0)) (by (with_reducible repeat (first | refine blk_drewN ?_ _ | refine blk_drew ?_ | refine blk_alloc ?_ _)); exact BK261.out) hb); have n1_ := Aside0.mk (blk_below (g := gb262) (o := .cells #[.int .i64 a1_0, .int .i64 a1_1, .int .i64 a1_2, .int .i64 a1_3, .int .i64 a1_4, .int .i32 a1_5] 53 (0, 0)) (by (with_reducible repeat (first | refine blk_drewN ?_ _ | refine blk_drew ?_ | refine blk_alloc ?_ _)); exact BK262.out) hb); have n2_ := Aside0.mk (below_step (by repeat (first | (with_reducible first | exact HB.out | apply below_alloc | apply pw_below_drewN | apply below_drew1 | refine below_set ?_ GE261.out | refine below_set ?_ GE262.out) | exact HB.out)) hb); clear BK261; clear BK262; clear HB; have BK261 := n0_; have BK262 := n1_; have HB := n2_; clear n0_ n1_ n2_; (try clear hb); (try clear hb2); (try clear hk); (try clear hi)))
   go_ret
   exact ⟨by first | rfl | (simp [errW_none, errW_some] <;> rfl) | (simp [*, errW_none, errW_some] <;> rfl), by repeat (first | (with_reducible first | exact HB.out | apply below_alloc | apply pw_below_drewN | apply below_drew1 | refine below_set ?_ GE261.out | refine below_set ?_ GE262.out) | exact HB.out)⟩
  ·
   rw [if_neg c9] at H
   have c9b0 : (a0_4 == a1_4) = false := beq_eq_false_iff_ne.mpr c9
   have c9b1 : (a0_4 != a1_4) = true := bne_iff_ne.mpr c9
   obtain rfl := Option.some.inj H
   go_enter Tryz.func103, Tryz.ntmps103
   go_wp2_with (first | ((with_reducible refine gate_dst (N := 2) rfl ?_); refine box_event ?hg (N := 2) ?hd (cs := #[.int .i64 a0_0, .int .i64 a0_1, .int .i64 a0_2, .int .i64 a0_3, .int .i64 a0_4, .int .i32 a0_5]) (t := 53) ?hr ?_; (case hd => rfl); (case hg => rfl); (case hr => first | (go_simp; done) | (go_simp; rfl)); intro gb261 hg w17 hbox hb; have n0_ := Aside0.mk (below_step (by repeat (first | (with_reducible first | exact HB.out | apply below_alloc | apply pw_below_drewN | apply below_drew1) | exact HB.out)) hb); have n1_ := Aside0.mk (hbox); have n2_ := Aside0.mk ((by rw [hg]; exact (below_size (by repeat (first | (with_reducible first | exact HB.out | apply below_alloc | apply pw_below_drewN | apply below_drew1) | exact HB.out))) : w.heap.size ≤ gb261)); have n3_ := Aside0.mk ((by rw [hg]; exact (below_size (by repeat (first | (with_reducible first | exact HB.out | apply below_alloc | apply pw_below_drewN | apply below_drew1) | exact HB.out))) : w.heap.size ≤ gb261)); clear HB; have HB := n0_; have BK261 := n1_; have GW261 := n2_; have GE261 := n3_; clear n0_ n1_ n2_ n3_; clear hb hbox hg) | ((with_reducible refine gate_dst (N := 3) rfl ?_); refine box_event ?hg (N := 3) ?hd (cs := #[.int .i64 a1_0, .int .i64 a1_1, .int .i64 a1_2, .int .i64 a1_3, .int .i64 a1_4, .int .i32 a1_5]) (t := 53) ?hr ?_; (case hd => rfl); (case hg => rfl); (case hr => first | (go_simp; done) | (go_simp; rfl)); intro gb262 hg w18 hbox hb; have n0_ := Aside0.mk (blk_below (g := gb261) (o := .cells #[.int .i64 a0_0, .int .i64 a0_1, .int .i64 a0_2, .int .i64 a0_3, .int .i64 a0_4, .int .i32 a0_5] 53 (0, 0)) (by (with_reducible repeat (first | refine blk_drewN ?_ _ | refine blk_drew ?_ | refine blk_alloc ?_ _)); exact BK261.out) hb); have n1_ := Aside0.mk (below_step (by repeat (first | (with_reducible first | exact HB.out | apply below_alloc | apply pw_below_drewN | apply below_drew1 | refine below_set ?_ GE261.out) | exact HB.out)) hb); have n2_ := Aside0.mk (hbox); have n3_ := Aside0.mk ((by rw [hg]; exact (below_size (by repeat (first | (with_reducible first | exact HB.out | apply below_alloc | apply pw_below_drewN | apply below_drew1 | refine below_set ?_ GE261.out) | exact HB.out))) : w.heap.size ≤ gb262)); have n4_ := Aside0.mk ((by rw [hg]; exact (below_size (by repeat (first | (with_reducible first | exact HB.out | apply below_alloc | apply pw_below_drewN | apply below_drew1 | refine below_set ?_ GE261.out) | exact HB.out))) : w.heap.size ≤ gb262)); have n5_ := Aside0.mk ((by rw [hg]; exact Nat.ne_of_lt (blk_lt (g := gb261) (o := .cells #[.int .i64 a0_0, .int .i64 a0_1, .int .i64 a0_2, .int .i64 a0_3, .int .i64 a0_4, .int .i32 a0_5] 53 (0, 0)) (by (with_reducible repeat (first | refine blk_drewN ?_ _ | refine blk_drew ?_ | refine blk_alloc ?_ _)); exact BK261.out)) : gb261 ≠ gb262)); have n6_ := Aside0.mk ((by rw [hg]; exact Nat.ne_of_gt (blk_lt (g := gb261) (o := .cells #[.int .i64 a0_0, .int .i64 a0_1, .int .i64 a0_2, .int .i64 a0_3, .int .i64 a0_4, .int .i32 a0_5] 53 (0, 0)) (by (with_reducible repeat (first | refine blk_drewN ?_ _ | refine blk_drew ?_ | refine blk_alloc ?_ _)); exact BK261.out)) : gb262 ≠ gb261)); clear BK261; clear HB; have BK261 := n0_; have HB := n1_; have BK262 := n2_; have GW262 := n3_; have GE262 := n4_; have NB261_262 := n5_; have NB262_261 := n6_; clear n0_ n1_ n2_ n3_ n4_ n5_ n6_; clear hb hbox hg; have hnb19 := NB261_262.out; have hnc19 := NB262_261.out; have hcz20_0 : w18.cell? ⟨gb261, 0, none⟩ = some (.int .i64 a0_0) := (blk_cell BK261.out 0).trans rfl; have hcz20_1 : w18.cell? ⟨gb261, 1, none⟩ = some (.int .i64 a0_1) := (blk_cell BK261.out 1).trans rfl; have hcz20_2 : w18.cell? ⟨gb261, 2, none⟩ = some (.int .i64 a0_2) := (blk_cell BK261.out 2).trans rfl; have hcz20_3 : w18.cell? ⟨gb261, 3, none⟩ = some (.int .i64 a0_3) := (blk_cell BK261.out 3).trans rfl; have hcz20_4 : w18.cell? ⟨gb261, 4, none⟩ = some (.int .i64 a0_4) := (blk_cell BK261.out 4).trans rfl; have hcz20_5 : w18.cell? ⟨gb261, 5, none⟩ = some (.int .i32 a0_5) := (blk_cell BK261.out 5).trans rfl; have hfz20_0 := blk_frozen BK261.out 0; have hfz20_1 := blk_frozen BK261.out 1; have hfz20_2 := blk_frozen BK261.out 2; have hfz20_3 := blk_frozen BK261.out 3; have hfz20_4 := blk_frozen BK261.out 4; have hfz20_5 := blk_frozen BK261.out 5; have hcz21_0 : w18.cell? ⟨gb262, 0, none⟩ = some (.int .i64 a1_0) := (blk_cell BK262.out 0).trans rfl; have hcz21_1 : w18.cell? ⟨gb262, 1, none⟩ = some (.int .i64 a1_1) := (blk_cell BK262.out 1).trans rfl; have hcz21_2 : w18.cell? ⟨gb262, 2, none⟩ = some (.int .i64 a1_2) := (blk_cell BK262.out 2).trans rfl; have hcz21_3 : w18.cell? ⟨gb262, 3, none⟩ = some (.int .i64 a1_3) := (blk_cell BK262.out 3).trans rfl; have hcz21_4 : w18.cell? ⟨gb262, 4, none⟩ = some (.int .i64 a1_4) := (blk_cell BK262.out 4).trans rfl; have hcz21_5 : w18.cell? ⟨gb262, 5, none⟩ = some (.int .i32 a1_5) := (blk_cell BK262.out 5).trans rfl; have hfz21_0 := blk_frozen BK262.out 0; have hfz21_1 := blk_frozen BK262.out 1; have hfz21_2 := blk_frozen BK262.out 2; have hfz21_3 := blk_frozen BK262.out 3; have hfz21_4 := blk_frozen BK262.out 4; have hfz21_5 := blk_frozen BK262.out 5))
   go_ret
   exact ⟨by first | rfl | (simp [errW_none, errW_some] <;> rfl) | (simp [*, errW_none, errW_some] <;> rfl), by repeat (first | (with_reducible first | exact HB.out | apply below_alloc | apply pw_below_drewN | apply below_drew1 | refine below_set ?_ GE261.out | refine below_set ?_ GE262.out) | exact HB.out)⟩
end Go.Proofs.YtmbndijbpgobeaaGreat.PWalk
end
section
namespace Go.Proofs.YtmbndijbpgobeaaGreat.PWalk
open Go.RowKit Go.Proofs.YtmbndijbpgobeaaGreatW.PrintWords Go.Proofs.YtmbndijbpgobeaaGreatW.PrintLast Go.Proofs.YtmbndijbpgobeaaGreatW.PrintMore
set_option linter.unusedVariables false
set_option linter.unusedSimpArgs false
open Go.Shelf
attribute [local go_sem] Oper.semAt_some
def cutN (x : Node) : List Node → Nat
 | [] => 0
 | y :: r => if nodeLt y x then cutN x r + 1 else 0
theorem insB_cut (x : Node) : ∀ l, insB x l = l.take (cutN x l) ++ x :: l.drop (cutN x l)
 | [] => rfl
 | y :: r => by
  rw [insB, cutN]
  split
  ·
   rw [List.take_succ_cons, List.drop_succ_cons, List.cons_append, ← insB_cut x r]
  ·
   rfl
theorem cutN_is {x : Node} : ∀ {l : List Node} {k : Nat}, k ≤ l.length → (∀ j y, j < k → l[j]? = some y → nodeLt y x = true) → (∀ y, l[k]? = some y → nodeLt y x = false) → cutN x l = k
 | [], k, hk, _, _ => by simp at hk; subst hk; rfl
 | y :: r, 0, _, _, h => by rw [cutN, if_neg (by rw [h y rfl]; simp)]
 | y :: r, k + 1, hk, h1, h2 => by
  rw [cutN, if_pos (h1 0 y (by omega) rfl), cutN_is (k := k) (by simpa using hk) (fun j z hj hz => h1 (j + 1) z (by omega) (by simpa using hz)) (fun z hz => h2 z (by simpa using hz))]
theorem kids_take_succ {l : List Node} {d : Dot} {i : Nat} {x : Node} (h : l[i]? = some x) : kids (l.take (i + 1)) d = if x.f1 = d then insB x (kids (l.take i) d) else kids (l.take i) d := by
 unfold kids
 rw [List.take_succ_eq_append_getElem (List.getElem?_eq_some_iff.1 h).1, (List.getElem?_eq_some_iff.1 h).2, List.filter_append, List.foldl_append]
 by_cases e : x.f1 = d <;> simp [e]
theorem kids_le (l : List Node) (d : Dot) : (kids l d).length ≤ l.length := by
 rw [(kids_perm l d).length_eq]; exact List.length_filter_le _ _
theorem jfirst_is (a b : Node) : redpencilref14_first.f a.f0.f0 a.f0.f1 a.f1.f0 a.f1.f1 a.f2 a.f3 b.f0.f0 b.f0.f1 b.f1.f0 b.f1.f1 b.f2 b.f3 = some (nodeLt a b) := by
 unfold redpencilref14_first.f nodeLt
 by_cases h : a.f2 = b.f2
 ·
  rw [if_neg (by omega), if_pos h, if_pos h, jbefore_is]
  rfl
 ·
  by_cases h2 : a.f2 > b.f2
  ·
   simp [h, h2]
  ·
   simp [h, h2]
def redpencilref14_Children.f (l0 : List Node) (a1_0 a1_1 : Int) : Option (List Node) := if l0.length ≤ 400000 then some (kids l0 ⟨a1_0, a1_1⟩) else none
attribute [local go_sem high] eqA25
def ch14aInv (W0 : World) (ad : Addr) (Ao : Option Addr) (n c0 no co i' k : Nat) (x y : Node) (lt b : Bool) (z1 z2 z3 z4 z8 z9 z10 z11 z12 z13 z14 z15 z16 z17 z18 z19 z20 z21 z22 z23 z24 z25 z26 z27 z28 z29 z30 z31 z32 z33 z34 z35 z36 z37 z38 z39 z40 z41 z42 z43 z44 z45 z46 z47 z48 z49 z50 z51 z52 z53 z54 : Value) (L : Array Bool) (ac : Act) (V : World) : Prop := ∃ (l0 l1 l2 l3 l4 l5 l6 l7 l8 l9 l10 l11 l12 l13 l14 : Bool), L = #[l0, l1, l2, l3, l4, l5, l6, l7, l8, l9, l10, l11, l12, l13, l14] ∧ ac = { tmps := #[.slice (some ad) n c0, z1, z2, z3, z4, .slice Ao no co, .int .i64 (i' : Int), .int .i64 (k : Int), z8, z9, z10, z11, z12, z13, z14, z15, z16, z17, z18, z19, z20, z21, selv l0 (.int .i64 (k : Int)) (z22), selv l1 (.slice Ao no co) (z23), selv l2 (.int .i64 (no : Int)) (z24), selv l3 (.bool lt) (z25), selv l4 (.bool lt) (z26), selv l5 (selv lt (.slice Ao no co) undef) (z27), selv l6 (selv lt (.int .i64 (k : Int)) undef) (z28), selv l7 (selv lt (.pointer (Ao.map fun a => a.add (k * 6))) undef) (z29), selv l8 (selv lt (vNode y) undef) (z30), selv l9 (selv lt (.slice (some ad) n c0) undef) (z31), selv l10 (selv lt (.int .i64 (i' : Int)) undef) (z32), selv l11 (selv lt (.pointer (some (ad.add (i' * 6)))) undef) (z33), selv l12 (selv lt (vNode x) undef) (z34), selv l13 (selv lt (.bool b) undef) (z35), selv l14 (.bool (lt && b)) (z36), z37, z38, z39, z40, z41, z42, z43, z44, z45, z46, z47, z48, z49, z50, z51, z52, z53, z54], defers := [] } ∧ Aside0 (Below W0.heap.size W0 V)
def ch14bInv (W0 : World) (ad : Addr) (Ao Ac : Option Addr) (n c0 no co i' k m3 q3 : Nat) (x : Node) (rest : List Node) (z1 z2 z3 z4 z8 z9 z10 z11 z12 z13 z14 z15 z16 z17 z18 z19 z20 z21 z22 z23 z24 z25 z26 z27 z28 z29 z30 z31 z32 z33 z34 z35 z36 z37 z38 z39 z40 z41 z42 z43 z44 z45 z46 z47 z48 z49 z50 z51 z52 z53 z54 : Value) (L : Array Bool) (ac : Act) (V : World) : Prop := ∃ (l0 l1 l2 l3 l4 l5 l6 l7 l8 l9 : Bool) (g : Nat) (v2 : Value), L = #[l0, l1, l2, l3, l4, l5, l6, l7, l8, l9] ∧ ac = { tmps := #[.slice (some ad) n c0, z1, z2, z3, z4, .slice Ao no co, .int .i64 (i' : Int), .int .i64 (k : Int), selv l9 (v2) (z8), z9, z10, z11, z12, z13, z14, z15, z16, z17, z18, z19, z20, z21, z22, z23, z24, z25, z26, z27, z28, z29, z30, z31, z32, z33, z34, z35, z36, z37, z38, selv l0 (.slice (some ad) n c0) (z39), selv l1 (.int .i64 (i' : Int)) (z40), selv l2 (.pointer (some (ad.add (i' * 6)))) (z41), selv l3 (vNode x) (z42), selv l4 (.slice (some ⟨g, 0, none⟩) 1 1) (z43), selv l5 (.slice Ao no co) (z44), selv l6 (.int .i64 (k : Int)) (z45), selv l7 (.slice Ac m3 q3) (z46), selv l8 (v2) (z47), z48, z49, z50, z51, z52, z53, z54], defers := [] } ∧ Aside0 (JP W0 x rest l4 l8 l9 g v2 V)
set_option maxHeartbeats 4000000 in
set_option maxRecDepth 100000 in
theorem redpencilref14_Children.calls (A0 : Option Addr) (c0 : Nat) (l0 : List Node) (a1_0 a1_1 : Int) (r : List Node) (w : World) (hr0 : Kd.C k53 w A0 l0.length l0) (hc0 : l0.length ≤ c0) (h : redpencilref14_Children.f l0 a1_0 a1_1 = some r) :
  Calls Tryz.prog 86 #[.slice A0 l0.length c0, .agg #[.int .i64 a1_0, .int .i64 a1_1]] w fun e w' => ∃ v0_ : Value, e = .returned v0_ ∧ Kd.R k53 53 w' w.heap.size (fun _ => True) v0_ r ∧ Below w.heap.size w w' := by
 obtain ⟨d, hd⟩ : ∃ d : Dot, d = ⟨a1_0, a1_1⟩ := ⟨_, rfl⟩
 unfold redpencilref14_Children.f at h
 rw [← hd] at h
 rw [show a1_0 = d.f0 by rw [hd], show a1_1 = d.f1 by rw [hd]]
 clear hd
 by_cases hl : l0.length ≤ 400000
 rotate_left
 ·
  rw [if_neg hl] at h; cases h
 rw [if_pos hl] at h
 obtain rfl := Option.some.inj h
 have HR := Aside0.mk hr0
 have HL := Aside0.mk hl
 have HB0 := Aside0.mk (below_alloc (Below.refl _ w) (dotC d))
 have HK0 := Aside0.mk (blk_new w (dotC d))
 have hu := Tryz.underlying53
 have hu2 := Tryz.underlying25
 clear h hr0 hc0 hl
 obtain ⟨n, Hn⟩ : ∃ n, Aside0 (l0.length = n) := ⟨_, ⟨rfl⟩⟩
 rw [Hn.out] at HR HL ⊢
 obtain ⟨B, HBe⟩ : ∃ B, Aside0 (w.heap.size = B) := ⟨_, ⟨rfl⟩⟩
 rw [HBe.out] at HK0
 go_enter Tryz.func86, Tryz.ntmps86
 go_wp2_with fail
 rw [HBe.out]
 generalize w.alloc (dotC d) = W1 at *
 go_loopw [5, 6] (fun o i wr => ∃ (i' : Nat) (Ao : Option Addr) (no co : Nat), i' ≤ n ∧ i = .int .i64 i' ∧ o = .slice Ao no co ∧ Aside0 (RN wr w.heap.size (.slice Ao no co) (kids (l0.take i') d)) ∧ Aside0 (wr.heap[B]? = some (dotC d)) ∧ Aside0 (Below w.heap.size w wr)) (fun _ i _ => n - (intOf i).toNat)
 case atStart => exact ⟨0, none, 0, 0, Nat.zero_le _, rfl, rfl, ⟨Kd.R_nil _ _ _ _ _⟩, HK0, HB0⟩
 case round =>
  obtain ⟨i', Ao, no, co, hi', rfl, rfl, HO, HK, HB⟩ := hrel
  clear HK0 HB0
  by_cases hlt : i' < n
  ·
   obtain ⟨x, Hx⟩ : ∃ x, Aside0 (l0[i']? = some x) := ⟨_, ⟨List.getElem?_eq_getElem (by rw [Hn.out]; exact hlt)⟩⟩
   obtain ⟨ad, e, g0, g1, g2, g3, g4, g5⟩ := node_at HR.out HB.out i' x Hx.out
   subst e
   obtain ⟨k0, k1⟩ := dot_cells HK.out
   have HST : Aside0 (kids (l0.take (i' + 1)) d = if x.f1 = d then insB x (kids (l0.take i') d) else kids (l0.take i') d) := ⟨kids_take_succ Hx.out⟩
   have HOC := Aside0.mk (RN.C HO.out)
   have HNO : Aside0 (no ≤ 400000) := ⟨by have h1 := HOC.out.1; have h2 := kids_le (l0.take i') d; rw [List.length_take] at h2; have := HL.out; omega⟩
   have hltn : i' < n ∧ n ≤ 400000 := ⟨hlt, HL.out⟩
   by_cases hxd : x.f1 = d
   ·
    have hne : (x.f1.f0 == d.f0 && (x.f1.f1 == d.f1)) = true := by rw [hxd]; simp
    have HXD := Aside0.mk hxd
    go_wp2
    go_quiet (fail)
    have hdq := (Gr.drawn (w := wr) ⟨nq, rfl⟩).below
    go_wp2
    clear hxd hne k0 k1 g0 g1 g2 g3 g4 g5
    have HHB := Aside0.mk (below_more HB.out hdq)
    have HHO := Aside0.mk (RN.below' HO.out hdq)
    have HHK := Aside0.mk (blk_keep HK.out hdq)
    rw [if_pos HXD.out] at HST
    have HXI : Aside0 (i' < n ∧ n ≤ 400000) := ⟨hltn⟩
    obtain ⟨out, Hout⟩ : ∃ out, Aside0 (kids (l0.take i') d = out) := ⟨_, ⟨rfl⟩⟩
    rw [Hout.out] at HHO HOC HST
    clear hdq HO HB HK
    generalize wr.drewN nq = W2 at *
    go_loopw [7] (fun j wr => ∃ k : Nat, k ≤ no ∧ j = .int .i64 k ∧ Aside0 (∀ q y, q < k → out[q]? = some y → nodeLt y x = true) ∧ Aside0 (Below W2.heap.size W2 wr)) (fun j _ => no - (intOf j).toNat)
    case atStart => exact ⟨0, Nat.zero_le _, rfl, ⟨fun q y hq => absurd hq (Nat.not_lt_zero _)⟩, ⟨Below.refl _ _⟩⟩
    case round =>
     obtain ⟨k, hk, rfl, HPRE, HB2⟩ := hrel
     have HKN : Aside0 (k ≤ no ∧ no ≤ 400000) := ⟨hk, HNO.out⟩
     obtain ⟨lt, HLT⟩ : ∃ b, Aside0 (decide (k < no) = b) := ⟨_, ⟨rfl⟩⟩
     obtain ⟨y, HY⟩ : ∃ y, Aside0 (lt = true → out[k]? = some y) := by
      by_cases h : k < no
      ·
       exact ⟨out[k]'(by rw [HOC.out.1]; exact h), ⟨fun _ => List.getElem?_eq_getElem _⟩⟩
      ·
       refine ⟨x, ⟨fun h2 => ?_⟩⟩
       rw [← HLT.out] at h2
       exact absurd (of_decide_eq_true h2) (by omega)
     obtain ⟨b, Hb⟩ : ∃ b, Aside0 (nodeLt y x = b) := ⟨_, ⟨rfl⟩⟩
     have HOW := Aside0.mk (RN.C HHO.out)
     go_wp2_with fail
     refine AnyOrder.wp_region (by kernel_rfl) (ch14aInv wr.drew ad Ao n c0 no co i' k x y lt b _ _ _ _ _ _ _ _ _ _ _ _ _ _ _ _ _ _ _ _ _ _ _ _ _ _ _ _ _ _ _ _ _ _ _ _ _ _ _ _ _ _ _ _ _ _ _ _ _ _ _) ⟨false, false, false, false, false, false, false, false, false, false, false, false, false, false, false, rfl, rfl, ⟨Below.refl _ _⟩⟩ ?step ?last
     case step =>
      rintro L ac V i ⟨l0, l1, l2, l3, l4, l5, l6, l7, l8, l9, l10, l11, l12, l13, l14, rfl, rfl, HF⟩ hi K hK
      rcases AnyOrder.up hi [0, 1, 2, 4, 3, 5, 6, 9, 10, 7, 8, 11, 12, 13, 14] rfl with rfl | rfl | rfl | rfl | rfl | rfl | rfl | rfl | rfl | rfl | rfl | rfl | rfl | rfl | rfl
      all_goals
       replace hi := AnyOrder.first hi rfl
       repeat (obtain ⟨ha, hi⟩ := hi; first | obtain rfl := ha | clear ha)
       clear hi
       try simp only [sel_true, selv_true] at hK ⊢
      iterate 4
       ·
        refine AnyOrder.wpOp_go rfl (by rfl) ?_
        go_wp2_with fail
        exact ⟨_, _, _, _, _, _, _, _, _, _, _, _, _, _, _, rfl, rfl, HF⟩
      ·
       refine AnyOrder.wpOp_go rfl (by rfl) ?_
       go_wp2_with fail
       rw [HLT.out]
       exact ⟨_, _, _, _, _, _, _, _, _, _, _, _, _, _, _, rfl, rfl, HF⟩
      iterate 4
       ·
        cases lt
        ·
         refine AnyOrder.wpOp_out rfl (by rfl) ?_
         exact hK _ _ ⟨_, _, _, _, _, _, _, _, _, _, _, _, _, _, _, rfl, rfl, HF⟩
        ·
         refine AnyOrder.wpOp_go rfl (by rfl) ?_
         go_wp2_with fail
         exact ⟨_, _, _, _, _, _, _, _, _, _, _, _, _, _, _, rfl, rfl, HF⟩
      ·
       cases lt
       ·
        refine AnyOrder.wpOp_out rfl (by rfl) ?_
        exact hK _ _ ⟨_, _, _, _, _, _, _, _, _, _, _, _, _, _, _, rfl, rfl, HF⟩
       ·
        obtain ⟨ad', e, q0, q1, q2, q3, q4, q5⟩ := node_at HOW.out.2.2 (below_more HB2.out (below_more (below_drew1 (Below.refl _ wr)) HF.out)) k y (HY.out rfl)
        subst e
        have hkk := HKN.out
        have hlt := of_decide_eq_true HLT.out
        clear q0 q1 q2 q3 q4 q5
        refine AnyOrder.wpOp_go rfl (by rfl) ?_
        go_wp2_with fail
        exact ⟨_, _, _, _, _, _, _, _, _, _, _, _, _, _, _, rfl, rfl, HF⟩
      ·
       cases lt
       ·
        refine AnyOrder.wpOp_out rfl (by rfl) ?_
        exact hK _ _ ⟨_, _, _, _, _, _, _, _, _, _, _, _, _, _, _, rfl, rfl, HF⟩
       ·
        obtain ⟨ad', e, q0, q1, q2, q3, q4, q5⟩ := node_at HOW.out.2.2 (below_more HB2.out (below_more (below_drew1 (Below.refl _ wr)) HF.out)) k y (HY.out rfl)
        subst e
        refine AnyOrder.wpOp_go rfl (by rfl) ?_
        go_wp2_with fail
        exact ⟨_, _, _, _, _, _, _, _, _, _, _, _, _, _, _, rfl, rfl, HF⟩
      ·
       cases lt
       ·
        refine AnyOrder.wpOp_out rfl (by rfl) ?_
        exact hK _ _ ⟨_, _, _, _, _, _, _, _, _, _, _, _, _, _, _, rfl, rfl, HF⟩
       ·
        have hxi := HXI.out
        refine AnyOrder.wpOp_go rfl (by rfl) ?_
        go_wp2_with fail
        exact ⟨_, _, _, _, _, _, _, _, _, _, _, _, _, _, _, rfl, rfl, HF⟩
      ·
       cases lt
       ·
        refine AnyOrder.wpOp_out rfl (by rfl) ?_
        exact hK _ _ ⟨_, _, _, _, _, _, _, _, _, _, _, _, _, _, _, rfl, rfl, HF⟩
       ·
        obtain ⟨ad', e, q0, q1, q2, q3, q4, q5⟩ := node_at HR.out (below_more HHB.out (below_more HB2.out (below_more (below_drew1 (Below.refl _ wr)) HF.out))) i' x Hx.out
        cases e
        refine AnyOrder.wpOp_go rfl (by rfl) ?_
        go_wp2_with fail
        exact ⟨_, _, _, _, _, _, _, _, _, _, _, _, _, _, _, rfl, rfl, HF⟩
      ·
       cases lt
       ·
        refine AnyOrder.wpOp_out rfl (by rfl) ?_
        exact hK _ _ ⟨_, _, _, _, _, _, _, _, _, _, _, _, _, _, _, rfl, rfl, HF⟩
       ·
        refine AnyOrder.wpOp_go rfl (by rfl) ?_
        go_wp2_with fail
        refine (redpencilref14_first.calls _ _ _ _ _ _ _ _ _ _ _ _ b V (by rw [jfirst_is, Hb.out])).mono ?_
        rintro e V' ⟨rfl, hb⟩
        exact hK _ _ ⟨_, _, _, _, _, _, _, _, _, _, _, _, _, _, _, rfl, rfl, ⟨below_more HF.out hb⟩⟩
      ·
       cases lt
       ·
        refine AnyOrder.wpOp_go rfl (by rfl) ?_
        go_wp2_with fail
        exact ⟨_, _, _, _, _, _, _, _, _, _, _, _, _, _, _, rfl, rfl, HF⟩
       ·
        refine AnyOrder.wpOp_go rfl (by rfl) ?_
        go_wp2_with fail
        exact ⟨_, _, _, _, _, _, _, _, _, _, _, _, _, _, _, rfl, rfl, HF⟩
     case last =>
      rintro L ac V ⟨l0, l1, l2, l3, l4, l5, l6, l7, l8, l9, l10, l11, l12, l13, l14, rfl, rfl, HF⟩ hr
      obtain ⟨rfl, rfl, rfl, rfl, rfl, rfl, rfl, rfl, rfl, rfl, rfl, rfl, rfl, rfl, rfl, -⟩ := AnyOrder.alls rfl (by kernel_rfl) hr
      clear hr
      simp only [sel_true, selv_true]
      have HB2 := Aside0.mk (below_more HB2.out (below_more (below_drew1 (Below.refl _ wr)) HF.out))
      clear HF
      cases hs : (lt && b) with
      | true =>
       rw [Bool.and_eq_true] at hs
       obtain ⟨h1, h2⟩ := hs
       have HPRE : Aside0 (∀ q z, q < k + 1 → out[q]? = some z → nodeLt z x = true) := ⟨fun q z hq hz => by
        rcases Nat.lt_succ_iff_lt_or_eq.1 hq with h | h
        ·
         exact HPRE.out q z h hz
        ·
         subst h
         rw [HY.out h1] at hz
         cases hz
         rw [Hb.out, h2]⟩
       have hkn : k < no := by
        have := HLT.out
        rw [h1] at this
        exact of_decide_eq_true this
       clear h1 h2
       have hkk := HKN.out
       go_wp2_with fail
       go_roundw
       case rel => exact ⟨k + 1, by omega, by go_num, HPRE, HB2⟩
       case measure => simp [intOf]; omega
      | false =>
       have HINS : Aside0 (insB x out = out.take k ++ [x] ++ out.drop k) := ⟨by
        rw [insB_cut, cutN_is (k := k) (by rw [HOC.out.1]; exact HKN.out.1) HPRE.out fun z hz => ?_, List.append_assoc]
        ·
         rfl
        ·
         have h1 : lt = true := by
          rw [← HLT.out]
          have := (List.getElem?_eq_some_iff.1 hz).1
          exact decide_eq_true (by rw [HOC.out.1] at this; exact this)
         rw [HY.out h1] at hz
         cases hz
         rw [h1] at hs
         rw [Hb.out]
         exact hs⟩
       clear hs
       generalize V = V2 at *
       have HHB := Aside0.mk (below_more HHB.out HB2.out)
       have HHO := Aside0.mk (RN.below' HHO.out HB2.out)
       have HHK := Aside0.mk (blk_keep HHK.out HB2.out)
       have HCV := Aside0.mk (RN.C HHO.out)
       obtain ⟨m3, Hm3⟩ : ∃ m3, Aside0 (no - k = m3) := ⟨_, ⟨rfl⟩⟩
       obtain ⟨q3, Hq3⟩ : ∃ q3, Aside0 (co - k = q3) := ⟨_, ⟨rfl⟩⟩
       obtain ⟨Ac, HAc⟩ : ∃ Ac, Aside0 ((if co = k then Ao else Ao.map (·.add (k * 6))) = Ac) := ⟨_, ⟨rfl⟩⟩
       have HCD : Aside0 (Kd.C k53 V2 Ac m3 (out.drop k)) := ⟨by rw [← HAc.out, ← Hm3.out]; exact C_from HCV.out.2.2 HCV.out.1 HKN.out.1 HCV.out.2.1⟩
       have HCF : Aside0 (∀ W, (Instr.sliceAt 23 (.slice Ao no co) (some (.int .i64 (k : Int))) none none).run Tryz.prog W = .ok (.slice Ac m3 q3) W) := ⟨fun W => by rw [← HAc.out, ← Hm3.out, ← Hq3.out]; exact cut_fromT Tryz.underlying23 HKN.out.1 W⟩
       have HM3 : Aside0 (m3 ≤ 400000) := ⟨by have := Hm3.out; have := HKN.out; omega⟩
       go_wp2_with fail
       refine AnyOrder.wp_region (by kernel_rfl) (ch14bInv V2.drew ad Ao Ac n c0 no co i' k m3 q3 x (out.drop k) _ _ _ _ _ _ _ _ _ _ _ _ _ _ _ _ _ _ _ _ _ _ _ _ _ _ _ _ _ _ _ _ _ _ _ _ _ _ _ _ _ _ _ _ _ _ _ _ _ _ _) ⟨false, false, false, false, false, false, false, false, false, false, 0, undef, rfl, rfl, ⟨⟨fun h => (by cases h), fun h => (by cases h), Below.refl _ _, fun h _ => (by cases h), fun h => (by cases h)⟩⟩⟩ ?step ?last
       case step =>
        rintro L ac V i ⟨l0, l1, l2, l3, l4, l5, l6, l7, l8, l9, g, v2, rfl, rfl, HF⟩ hi K hK
        rcases AnyOrder.up hi [0, 1, 5, 6, 2, 3, 4, 7, 8, 9] rfl with rfl | rfl | rfl | rfl | rfl | rfl | rfl | rfl | rfl | rfl
        all_goals
         replace hi := AnyOrder.first hi rfl
         repeat (obtain ⟨ha, hi⟩ := hi; first | obtain rfl := ha | clear ha)
         clear hi
         try simp only [sel_true, selv_true] at hK ⊢
        iterate 4
         ·
          refine AnyOrder.wpOp_go rfl (by rfl) ?_
          go_wp2_with fail
          exact ⟨_, _, _, _, _, _, _, _, _, _, g, v2, rfl, rfl, HF⟩
        ·
         have hxi := HXI.out
         refine AnyOrder.wpOp_go rfl (by rfl) ?_
         go_wp2_with fail
         exact ⟨_, _, _, _, _, _, _, _, _, _, g, v2, rfl, rfl, HF⟩
        ·
         obtain ⟨ad', e, q0, q1, q2, q3, q4, q5⟩ := node_at HR.out (below_more HHB.out (below_more (below_drew1 (Below.refl _ V2)) HF.out.below)) i' x Hx.out
         cases e
         refine AnyOrder.wpOp_go rfl (by rfl) ?_
         go_wp2_with fail
         exact ⟨_, _, _, _, _, _, _, _, _, _, g, v2, rfl, rfl, HF⟩
        ·
         obtain rfl : l8 = false := by cases l8 with | false => rfl | true => cases HF.out.ord5 rfl
         obtain rfl : l9 = false := by cases l9 with | false => rfl | true => cases HF.out.ord6 rfl
         (try simp only [selv_false] at hK ⊢)
         refine AnyOrder.wpOp_go rfl (by rfl) ?_
         go_wp2_with fail
         exact ⟨_, _, _, _, _, _, _, _, _, _, V.heap.size, v2, rfl, rfl, ⟨⟨fun h => (by cases h), fun h => (by cases h), below_more HF.out.below (below_alloc (Below.refl _ V) (boxN x)), fun _ _ => lit_nodes V V2.drew.heap.size HF.out.below.size [x] 1 rfl (by decide) (by decide) #[.int .i64 x.f0.f0, .int .i64 x.f0.f1, .int .i64 x.f1.f0, .int .i64 x.f1.f1, .int .i64 x.f2, .int .i32 x.f3] rfl, fun h => (by cases h)⟩⟩⟩
        ·
         refine AnyOrder.wpOp_go rfl (by rfl) ?_
         refine op_slice 23 (.tmp 44) (some (.tmp 45)) none rfl rfl rfl rfl (HCF.out V) ?_
         exact hK _ _ ⟨_, _, _, _, _, _, _, _, _, _, g, v2, rfl, rfl, HF⟩
        ·
         obtain rfl : l9 = false := by cases l9 with | false => rfl | true => cases HF.out.ord6 rfl
         have hr1 := HF.out.r1 rfl rfl
         (try simp only [selv_false] at hK ⊢)
         refine AnyOrder.wpOp_go rfl (by rfl) ?_
         refine op_append_rows Tryz.underlying23 V2.drew.heap.size rfl (.tmp 43) (.tmp 46) rfl (.slice (some ⟨g, 0, none⟩) 1 1) [x] (out.drop k) Ac m3 q3 rfl rfl hr1 (Kd.C_below HCD.out (below_more (below_drew1 (Below.refl _ V2)) HF.out.below)) HF.out.below.size (by have := HM3.out; simp only [List.length_cons, List.length_nil]; omega) ?_
         intro v3 W3 h1 h2 _
         exact hK _ _ ⟨_, _, _, _, _, _, _, _, _, _, g, v3, rfl, rfl, ⟨⟨fun _ => rfl, fun h => (by cases h), grown_below HF.out.below hr1 h2, fun _ => fun h => (by cases h), fun _ => h1⟩⟩⟩
        ·
         refine AnyOrder.wpOp_go rfl (by rfl) ?_
         go_wp2_with fail
         exact ⟨_, _, _, _, _, _, _, _, _, _, g, v2, rfl, rfl, ⟨⟨HF.out.ord5, fun _ => rfl, HF.out.below, HF.out.r1, HF.out.r2⟩⟩⟩
       case last =>
        rintro L ac V ⟨l0, l1, l2, l3, l4, l5, l6, l7, l8, l9, g, v2, rfl, rfl, HF⟩ hr
        obtain ⟨rfl, rfl, rfl, rfl, rfl, rfl, rfl, rfl, rfl, rfl, -⟩ := AnyOrder.alls rfl (by kernel_rfl) hr
        clear hr
        simp only [sel_true, selv_true]
        have HR2 := Aside0.mk (HF.out.r2 rfl)
        have HB3 := Aside0.mk (below_more (below_drew1 (Below.refl _ V2)) HF.out.below)
        have HHB := Aside0.mk (below_more HHB.out HB3.out)
        have HHK := Aside0.mk (blk_keep HHK.out HB3.out)
        obtain ⟨A2, c2, rfl⟩ := RN.slice HR2.out
        have HL2 : Aside0 (([x] ++ out.drop k).length = m3 + 1) := ⟨by rw [List.length_append, List.length_drop, HCV.out.1, Hm3.out]; simp; omega⟩
        rw [HL2.out] at HR2 ⊢
        have HCR := Aside0.mk (RN.C HR2.out)
        have HCT := Aside0.mk (C_to (Kd.C_below HCV.out.2.2 HB3.out) HCV.out.1 HKN.out.1)
        have hkk := HKN.out
        have hcc := HCV.out.2.1
        clear HF
        go_wp2_with (first | (at_builtin; refine app_rows Tryz.underlying23 V.heap.size rfl (.const (.slice none 0 0)) (.tmp 50) rfl (.slice none 0 0) [] (out.take k) Ao k co rfl rfl (Kd.R_nil _ _ _ _ _) HCT.out (Nat.le_refl _) (by simp only [List.length_nil]; omega) ?_; intro v8 W8 hr8 hg8) | (at_builtin; refine app_rows Tryz.underlying23 V.heap.size rfl (.tmp 51) (.tmp 52) rfl v8 ([] ++ out.take k) ([x] ++ out.drop k) A2 (m3 + 1) c2 rfl rfl hr8 (Kd.C_below HCR.out.2.2 (grown_nil hg8)) (grown_nil hg8).size (by have := HM3.out; rw [List.nil_append, List.length_take]; omega) ?_; intro v9 W9 hr9 hg9) | fail)
        rw [List.nil_append, ← List.append_assoc, ← HINS.out] at hr9
        have hbb := grown_below (grown_nil hg8) hr8 hg9
        have HB := Aside0.mk (below_more HHB.out hbb)
        have HK := Aside0.mk (blk_keep HHK.out hbb)
        have HO := Aside0.mk (Kd.R_lower hr9 HHB.out.size)
        obtain ⟨A9, c9, rfl⟩ := RN.slice HO.out
        obtain ⟨n9, Hn9⟩ : ∃ q, Aside0 ((insB x out).length = q) := ⟨_, ⟨rfl⟩⟩
        rw [Hn9.out] at HO ⊢
        have hxi := HXI.out
        clear hr8 hg8 hr9 hg9 hbb
        go_wp2
        go_roundw
        case rel => exact ⟨i' + 1, A9, n9, c9, by omega, by go_num, rfl, ⟨by rw [HST.out]; exact HO.out⟩, HK, HB⟩
        case measure => simp [intOf] <;> omega
   ·
    have hne : (x.f1.f0 == d.f0 && (x.f1.f1 == d.f1)) = false := by
     rw [Bool.eq_false_iff]
     intro h
     simp only [Bool.and_eq_true, beq_iff_eq] at h
     exact hxd (Dot.ext_iff'.2 h)
    rw [if_neg hxd] at HST
    clear hxd
    go_wp2
    go_quiet (fail)
    have hdq := (Gr.drawn (w := wr) ⟨nq, rfl⟩).below
    go_wp2
    go_roundw
    case rel => exact ⟨i' + 1, Ao, no, co, by omega, by go_num, rfl, ⟨by rw [HST.out]; exact RN.below' HO.out hdq⟩, ⟨blk_keep HK.out hdq⟩, ⟨below_more HB.out hdq⟩⟩
    case measure => simp [intOf] <;> omega
  ·
   obtain rfl : i' = n := by omega
   rw [List.take_of_length_le (Nat.le_of_eq Hn.out)] at HO
   go_wp2
   go_ret
   exact ⟨_, rfl, HO.out, HB.out⟩
end Go.Proofs.YtmbndijbpgobeaaGreat.PWalk
end
section
namespace Go.Proofs.YtmbndijbpgobeaaGreat.PWalk
open Go.RowKit Go.Proofs.YtmbndijbpgobeaaGreatW.PrintWords Go.Proofs.YtmbndijbpgobeaaGreatW.PrintLast Go.Proofs.YtmbndijbpgobeaaGreatW.PrintMore
set_option linter.unusedVariables false
set_option linter.unusedSimpArgs false
open Go.Shelf
attribute [local go_sem] Oper.semAt_some
def redpencilref14_Order.f (l0 : List Node) : Option (List Node) := if l0.length ≤ 400000 ∧ storeOk l0 = true then some (nds (ordOf l0)) else none
theorem nds_dep (c : Nat) (l : List Node) : nds (l.map fun y => (c, y)) = l := by
 unfold nds
 simp [Function.comp_def]
/-- What has come up where the rest of the stack is put after the children. -/
structure OP (W0 : World) (ks tl : List Node) (l3 l4 l6 l7 : Bool) (va vb : Value) (V : World) : Prop where
 ord6 : l6 = true → l3 = true
 ord7 : l7 = true → l6 = true ∧ l4 = true
 below : Below W0.heap.size W0 V
 r1 : l3 = true → l6 = false → RN V W0.heap.size va ks
 r2 : l6 = true → RN V W0.heap.size vb (ks ++ tl)
def or14Inv (W0 : World) (A0 Ao Ac : Option Addr) (ad : Addr) (n c0 no co nt ct m3 q3 NB : Nat) (x : Node) (ks tl : List Node) (z1 z6 z7 z8 z9 z10 z11 z12 z13 z14 z15 z16 z17 z18 z19 z20 z21 z22 z23 z24 z25 z26 : Value) (L : Array Bool) (ac : Act) (V : World) : Prop := ∃ (l0 l1 l2 l3 l4 l5 l6 l7 : Bool) (va : Value) (vb : Value), L = #[l0, l1, l2, l3, l4, l5, l6, l7] ∧ ac = { tmps := #[.slice A0 n c0, z1, .slice none 0 0, .slice Ao no co, selv l7 (vb) (.slice (some ad) nt ct), .pointer (some ⟨NB, 0, none⟩), z6, z7, z8, z9, z10, z11, z12, z13, z14, z15, z16, z17, z18, selv l0 (.slice A0 n c0) (z19), selv l1 (.pointer (some ⟨NB, 0, none⟩)) (z20), selv l2 (.agg #[.int .i64 x.f0.f0, .int .i64 x.f0.f1]) (z21), selv l3 (va) (z22), selv l4 (.slice (some ad) nt ct) (z23), selv l5 (.slice Ac m3 q3) (z24), selv l6 (vb) (z25), z26], defers := [] } ∧ Aside0 (OP W0 ks tl l3 l4 l6 l7 va vb V)
set_option maxHeartbeats 4000000 in
set_option maxRecDepth 100000 in
theorem redpencilref14_Order.calls (A0 : Option Addr) (c0 : Nat) (l0 : List Node) (r : List Node) (w : World) (hr0 : Kd.C k53 w A0 l0.length l0) (hc0 : l0.length ≤ c0) (h : redpencilref14_Order.f l0 = some r) :
  Calls Tryz.prog 62 #[.slice A0 l0.length c0] w fun e w' => ∃ v0_ : Value, e = .returned v0_ ∧ Kd.R k53 53 w' w.heap.size (fun _ => True) v0_ r ∧ Below w.heap.size w w' := by
 unfold redpencilref14_Order.f at h
 by_cases hl : l0.length ≤ 400000 ∧ storeOk l0 = true
 rotate_left
 ·
  rw [if_neg hl] at h; cases h
 rw [if_pos hl] at h
 obtain rfl := Option.some.inj h
 obtain ⟨n, Hn⟩ : ∃ n, Aside0 (l0.length = n) := ⟨_, ⟨rfl⟩⟩
 have HL : Aside0 (n ≤ 400000) := ⟨by rw [← Hn.out]; exact hl.1⟩
 have HS : Aside0 (Store l0) := ⟨store_of hl.2⟩
 have HCH : Aside0 (∀ (d : Dot) (W : World), Below w.heap.size w W → Calls Tryz.prog 86 #[.slice A0 n c0, .agg #[.int .i64 d.f0, .int .i64 d.f1]] W fun e w' => ∃ v0_ : Value, e = .returned v0_ ∧ RN w' W.heap.size v0_ (kids l0 d) ∧ Below W.heap.size W w') := ⟨fun d W hb => by
  rw [← Hn.out]
  exact redpencilref14_Children.calls A0 c0 l0 d.f0 d.f1 (kids l0 d) W (Kd.C_below hr0 hb) hc0 (by unfold redpencilref14_Children.f; rw [if_pos hl.1])⟩
 rw [Hn.out]
 clear h hl hr0 hc0
 have hu := Tryz.underlying53
 go_enter Tryz.func62, Tryz.ntmps62
 go_wp2_with fail
 refine (HCH.out ⟨0, 0⟩ w (Below.refl _ w)).mono ?_
 rintro e W1 ⟨vt, rfl, hrt, hbt⟩
 obtain ⟨At0, ct0, rfl⟩ := RN.slice hrt
 obtain ⟨nt0, Hnt0⟩ : ∃ k, Aside0 ((kids l0 ⟨0, 0⟩).length = k) := ⟨_, ⟨rfl⟩⟩
 rw [Hnt0.out] at hrt ⊢
 have HT0 := Aside0.mk hrt
 have HB0 := Aside0.mk hbt
 clear hrt hbt
 have HP0 : Aside0 (∀ p ∈ (kids l0 ⟨0, 0⟩).map (fun y => (0, y)), ∃ U, Path l0 p.2.f0 U) := ⟨fun p hp => by
  obtain ⟨y, hy, rfl⟩ := List.mem_map.1 hp
  obtain ⟨h1, h2⟩ := mem_kids.1 hy
  exact ⟨[y], Path.step _ _ y .root h1 h2⟩⟩
 obtain ⟨N, HN⟩ : ∃ N, Aside0 ((nds (ordOf l0)).length = N) := ⟨_, ⟨rfl⟩⟩
 have HNL : Aside0 (N ≤ 400000) := ⟨by rw [← HN.out]; unfold nds; rw [List.length_map]; have h1 := ord_le HS.out; have h2 := Hn.out; have h3 := HL.out; omega⟩
 go_wp2
 go_loopw [3, 4] (fun s q wr => ∃ (Ao At : Option Addr) (no co nt ct : Nat) (T : List (Nat × Node)) (dn : List Node), s = .slice Ao no co ∧ q = .slice At nt ct ∧ Aside0 (RN wr w.heap.size (.slice Ao no co) dn) ∧ Aside0 (RN wr w.heap.size (.slice At nt ct) (nds T)) ∧ Aside0 (dn ++ nds (restOf l0 T) = nds (ordOf l0)) ∧ Aside0 (∀ p ∈ T, ∃ U, Path l0 p.2.f0 U) ∧ Aside0 (∀ g, (Value.slice Ao no co).ownBlock = some g → (Value.slice At nt ct).ownBlock ≠ some g) ∧ Aside0 (Below w.heap.size w wr)) (fun o _ _ => N - lenV o)
 case atStart =>
  refine ⟨none, At0, 0, 0, nt0, ct0, (kids l0 ⟨0, 0⟩).map (fun y => (0, y)), [], rfl, rfl, ⟨Kd.R_nil _ _ _ _ _⟩, ⟨?_⟩, ⟨?_⟩, HP0, ⟨fun g hg => (by cases hg)⟩, HB0⟩
  ·
   rw [nds_dep]; exact HT0.out
  ·
   rw [restOf_kids HS.out .root 0]; rfl
 case round =>
  obtain ⟨Ao, At, no, co, nt, ct, T, dn, rfl, rfl, HO, HT, HE, HP, HD, HB⟩ := hrel
  clear HT0 HB0 HP0
  have HLO : Aside0 (dn.length = no) := ⟨(RN.C HO.out).1⟩
  have HLT : Aside0 (T.length = nt) := ⟨by have := (RN.C HT.out).1; unfold nds at this; simpa using this⟩
  by_cases hlt : 0 < nt
  ·
   obtain ⟨p, T', rfl⟩ : ∃ p T', T = p :: T' := by
    cases T with
    | nil => have := HLT.out; simp at this; omega
    | cons p T' => exact ⟨p, T', rfl⟩
   obtain ⟨U, hU⟩ := HP.out p List.mem_cons_self
   have HU := Aside0.mk hU
   clear hU
   have HE2 : Aside0 (dn ++ [p.2] ++ nds (restOf l0 ((kids l0 p.2.f0).map (fun y => (p.1 + 1, y)) ++ T')) = nds (ordOf l0)) := ⟨by
    rw [← HE.out, restOf_cons HS.out HU.out]; simp [nds]⟩
   have HP2 : Aside0 (∀ q ∈ (kids l0 p.2.f0).map (fun y => (p.1 + 1, y)) ++ T', ∃ U, Path l0 q.2.f0 U) := ⟨fun q hq => by
    rcases List.mem_append.1 hq with hq | hq
    ·
     obtain ⟨y, hy, rfl⟩ := List.mem_map.1 hq
     obtain ⟨h1, h2⟩ := mem_kids.1 hy
     exact ⟨y :: U, Path.step _ _ y HU.out h1 h2⟩
    ·
     exact HP.out q (List.mem_cons_of_mem _ hq)⟩
   have HNO : Aside0 (no < N ∧ N ≤ 400000) := ⟨by
    have h1 := congrArg List.length HE2.out
    rw [HN.out] at h1
    simp only [List.length_append, List.length_cons, List.length_nil] at h1
    have := HLO.out
    omega, HNL.out⟩
   have HNT : Aside0 (nt ≤ 400000) := ⟨by
    have h1 := congrArg List.length HE.out
    rw [HN.out, List.length_append] at h1
    have h2 := restOf_le l0 (p :: T')
    have h3 : (nds (restOf l0 (p :: T'))).length = (restOf l0 (p :: T')).length := List.length_map _
    have := HLT.out
    have := HNO.out
    omega⟩
   have HTL : Aside0 ((nds (p :: T')).length = nt) := ⟨by unfold nds; rw [List.length_map]; exact HLT.out⟩
   clear HE HP HU
   obtain ⟨x, Hx⟩ : ∃ x, Aside0 (p.2 = x) := ⟨_, ⟨rfl⟩⟩
   obtain ⟨ad, e, y0, y1, y2, y3, y4, y5⟩ := node_at (RN.C HT.out).2.2 (Below.refl _ wr) 0 x (by rw [← Hx.out]; rfl)
   subst e
   have hlt2 : 0 < nt ∧ nt ≤ 400000 := ⟨hlt, HNT.out⟩
   rw [show ad.add (0 * 6) = ad by simp [Addr.add]] at y0 y1 y2 y3 y4 y5
   go_upto_region 5 with (fail)
   obtain ⟨NB, HNB⟩ : ∃ q, Aside0 (wr.heap.size = q) := ⟨_, ⟨rfl⟩⟩
   have HKB : Aside0 ((wr.alloc (boxN x)).heap[NB]? = some (boxN x)) := ⟨by rw [← HNB.out]; exact blk_new wr _⟩
   have HOB : Aside0 (∀ g, (Value.slice Ao no co).ownBlock = some g → g < NB) := ⟨fun g hg => by rw [← HNB.out]; exact RN.lt HO.out hg⟩
   have hb0 := below_alloc (Below.refl wr.heap.size wr) (boxN x)
   have HO := Aside0.mk (RN.below' HO.out hb0)
   have HT := Aside0.mk (RN.below' HT.out hb0)
   have HB := Aside0.mk (below_more HB.out hb0)
   rw [HNB.out]
   clear y0 y1 y2 y3 y4 y5 hb0 HNB
   generalize wr.alloc (boxN x) = V1 at *
   obtain ⟨b0, b1, b2, b3, b4, b5⟩ := box_six HKB.out
   go_upto_region 6 with (at_builtin; refine app_rows Tryz.underlying23 w.heap.size rfl (.tmp 15) (.tmp 17) rfl (.slice Ao no co) dn [x] (some ⟨V1.heap.size, 0, none⟩) 1 1 rfl rfl (RN.below' HO.out (below_alloc (Below.refl _ V1) _)) (Kd.R_reads' (lit_nodes V1 0 (Nat.zero_le _) [x] 1 rfl (by decide) (by decide) _ rfl)).2.2 (by rw [World.size_alloc]; exact Nat.le_succ_of_le HB.out.size) (by have := HLO.out; have := HNO.out; omega) ?_; intro v1 W2 hr1 hg1)
   have hVT := RN.below' HT.out (below_alloc (Below.refl _ V1) (boxN x))
   have hVK := blk_alloc HKB.out (boxN x)
   have HT2 : Aside0 (RN W2 w.heap.size (.slice (some ad) nt ct) (nds (p :: T'))) := ⟨hVT.keep fun g hg => hg1.block g (RN.lt hVT hg) fun e => HD.out g e.symm hg⟩
   have HKB2 : Aside0 (W2.heap[NB]? = some (boxN x)) := ⟨(hg1.block NB (blk_lt hVK) fun e => Nat.lt_irrefl _ (HOB.out NB e.symm)).trans hVK⟩
   have HB2 := Aside0.mk (grown_below (below_alloc HB.out (boxN x)) (RN.below' HO.out (below_alloc (Below.refl _ V1) (boxN x))) hg1)
   have HO2 := Aside0.mk hr1
   clear b0 b1 b2 b3 b4 b5 hVT hVK hr1 hg1 HO HB HT HD HOB HKB
   have HT := Aside0.mk HT2.out
   have HKB := Aside0.mk HKB2.out
   have HB := Aside0.mk HB2.out
   have HO := Aside0.mk HO2.out
   clear HT2 HKB2 HB2 HO2
   obtain ⟨A3, c3, rfl⟩ := RN.slice HO.out
   have HL3 : Aside0 ((dn ++ [x]).length = no + 1) := ⟨by rw [List.length_append, HLO.out]; rfl⟩
   rw [HL3.out] at HO ⊢
   obtain ⟨m3, Hm3⟩ : ∃ m3, Aside0 (nt - 1 = m3) := ⟨_, ⟨rfl⟩⟩
   obtain ⟨q3, Hq3⟩ : ∃ q3, Aside0 (ct - 1 = q3) := ⟨_, ⟨rfl⟩⟩
   obtain ⟨Ac, HAc⟩ : ∃ Ac, Aside0 ((if ct = 1 then some ad else (some ad).map (·.add (1 * 6))) = Ac) := ⟨_, ⟨rfl⟩⟩
   obtain ⟨tl, Htl⟩ : ∃ tl, Aside0 (nds T' = tl) := ⟨_, ⟨rfl⟩⟩
   have HCT := Aside0.mk (RN.C HT.out)
   have HCD : Aside0 (Kd.C k53 W2 Ac m3 tl) := ⟨by rw [← HAc.out, ← Hm3.out, ← Htl.out]; exact C_from HCT.out.2.2 HTL.out hlt HCT.out.2.1⟩
   have HCF : Aside0 (∀ W, (Instr.sliceAt 23 (.slice (some ad) nt ct) (some (.int .i64 1)) none none).run Tryz.prog W = .ok (.slice Ac m3 q3) W) := ⟨fun W => by rw [← HAc.out, ← Hm3.out, ← Hq3.out]; exact cut_fromT Tryz.underlying23 (k := 1) hlt W⟩
   have HM3 : Aside0 ((kids l0 x.f0).length + m3 ≤ 1000000) := ⟨by have h1 := kids_le l0 x.f0; have := Hm3.out; have := HNT.out; have := Hn.out; have := HL.out; omega⟩
   have HCX : Aside0 (∀ (W : World), Below w.heap.size w W → Calls Tryz.prog 86 #[.slice A0 n c0, .agg #[.int .i64 x.f0.f0, .int .i64 x.f0.f1]] W fun e w' => ∃ v0_ : Value, e = .returned v0_ ∧ RN w' W.heap.size v0_ (kids l0 x.f0) ∧ Below W.heap.size W w') := ⟨HCH.out x.f0⟩
   obtain ⟨ks, Hks⟩ : ∃ ks, Aside0 (kids l0 x.f0 = ks) := ⟨_, ⟨rfl⟩⟩
   rw [Hks.out] at HM3 HCX
   clear HCT hlt2
   refine AnyOrder.wp_region (by kernel_rfl) (or14Inv W2.drew A0 A3 Ac ad n c0 (no + 1) c3 nt ct m3 q3 NB x ks tl _ _ _ _ _ _ _ _ _ _ _ _ _ _ _ _ _ _ _ _ _ _) ⟨false, false, false, false, false, false, false, false, undef, undef, rfl, rfl, ⟨⟨fun h => (by cases h), fun h => (by cases h), Below.refl _ _, fun h => (by cases h), fun h => (by cases h)⟩⟩⟩ ?step ?last
   case step =>
    rintro L ac V i ⟨l0, l1, l2, l3, l4, l5, l6, l7, va, vb, rfl, rfl, HF⟩ hi K hK
    rcases AnyOrder.up hi [0, 1, 2, 3, 4, 5, 6, 7] rfl with rfl | rfl | rfl | rfl | rfl | rfl | rfl | rfl
    all_goals
     replace hi := AnyOrder.first hi rfl
     repeat (obtain ⟨ha, hi⟩ := hi; first | obtain rfl := ha | clear ha)
     clear hi
     try simp only [sel_true, selv_true] at hK ⊢
    iterate 2
     ·
      refine AnyOrder.wpOp_go rfl (by rfl) ?_
      go_wp2_with fail
      exact ⟨_, _, _, _, _, _, _, _, va, vb, rfl, rfl, HF⟩
    ·
     have k0 := (blk_cell (blk_keep HKB.out (below_more (below_drew1 (Below.refl _ W2)) HF.out.below)) 0).trans rfl
     have k1 := (blk_cell (blk_keep HKB.out (below_more (below_drew1 (Below.refl _ W2)) HF.out.below)) 1).trans rfl
     refine AnyOrder.wpOp_go rfl (by rfl) ?_
     go_wp2_with fail
     exact ⟨_, _, _, _, _, _, _, _, va, vb, rfl, rfl, HF⟩
    ·
     obtain rfl : l6 = false := by cases l6 with | false => rfl | true => cases HF.out.ord6 rfl
     obtain rfl : l7 = false := by cases l7 with | false => rfl | true => cases (HF.out.ord7 rfl).1
     (try simp only [selv_false] at hK ⊢)
     refine AnyOrder.wpOp_go rfl (by rfl) ?_
     go_wp2_with fail
     refine (HCX.out V (below_more HB.out (below_more (below_drew1 (Below.refl _ W2)) HF.out.below))).mono ?_
     rintro e V' ⟨v', rfl, hr, hb⟩
     exact hK _ _ ⟨_, _, _, _, _, _, _, _, v', vb, rfl, rfl, ⟨⟨fun h => (by cases h), fun h => (by cases h), below_more HF.out.below hb, fun _ _ => Kd.R_lower hr HF.out.below.size, fun h => (by cases h)⟩⟩⟩
    ·
     obtain rfl : l7 = false := by cases l7 with | false => rfl | true => cases (HF.out.ord7 rfl).2
     (try simp only [selv_false] at hK ⊢)
     refine AnyOrder.wpOp_go rfl (by rfl) ?_
     go_wp2_with fail
     exact ⟨_, _, _, _, _, _, _, _, va, vb, rfl, rfl, ⟨⟨HF.out.ord6, fun h => (by cases h), HF.out.below, HF.out.r1, HF.out.r2⟩⟩⟩
    ·
     refine AnyOrder.wpOp_go rfl (by rfl) ?_
     refine op_slice 23 (.tmp 23) (some (.const (.int .i64 1))) none rfl rfl rfl rfl (HCF.out V) ?_
     exact hK _ _ ⟨_, _, _, _, _, _, _, _, va, vb, rfl, rfl, HF⟩
    ·
     obtain rfl : l7 = false := by cases l7 with | false => rfl | true => cases (HF.out.ord7 rfl).1
     have hr1 := HF.out.r1 rfl rfl
     (try simp only [selv_false] at hK ⊢)
     refine AnyOrder.wpOp_go rfl (by rfl) ?_
     refine op_append_rows Tryz.underlying23 W2.drew.heap.size rfl (.tmp 22) (.tmp 24) rfl va ks tl Ac m3 q3 rfl rfl hr1 (Kd.C_below HCD.out (below_more (below_drew1 (Below.refl _ W2)) HF.out.below)) HF.out.below.size (by have := HM3.out; omega) ?_
     intro v3 W3 h1 h2 _
     exact hK _ _ ⟨_, _, _, _, _, _, _, _, va, v3, rfl, rfl, ⟨⟨fun _ => rfl, fun h => (by cases h), grown_below HF.out.below hr1 h2, fun _ => fun h => (by cases h), fun _ => h1⟩⟩⟩
    ·
     refine AnyOrder.wpOp_go rfl (by rfl) ?_
     go_wp2_with fail
     exact ⟨_, _, _, _, _, _, _, _, va, vb, rfl, rfl, ⟨⟨HF.out.ord6, fun _ => ⟨rfl, rfl⟩, HF.out.below, HF.out.r1, HF.out.r2⟩⟩⟩
   case last =>
    rintro L ac V ⟨l0, l1, l2, l3, l4, l5, l6, l7, va, vb, rfl, rfl, HF⟩ hr
    obtain ⟨rfl, rfl, rfl, rfl, rfl, rfl, rfl, rfl, -⟩ := AnyOrder.alls rfl (by kernel_rfl) hr
    clear hr
    simp only [sel_true, selv_true]
    have HR2 := Aside0.mk (HF.out.r2 rfl)
    have HB3 := Aside0.mk (below_more (below_drew1 (Below.refl _ W2)) HF.out.below)
    obtain ⟨A9, c9, rfl⟩ := RN.slice HR2.out
    have HO9 := Aside0.mk (RN.below' HO.out HB3.out)
    have HD9 : Aside0 (∀ g, (Value.slice A3 (no + 1) c3).ownBlock = some g → (Value.slice A9 (ks ++ tl).length c9).ownBlock ≠ some g) := ⟨fun g hg hg2 => Nat.lt_irrefl _ (Nat.lt_of_lt_of_le (RN.lt HO.out hg) (RN.block HR2.out hg2).1)⟩
    obtain ⟨n9, Hn9⟩ : ∃ q, Aside0 ((ks ++ tl).length = q) := ⟨_, ⟨rfl⟩⟩
    rw [Hn9.out] at HR2 HD9 ⊢
    have HB9 := Aside0.mk (below_more HB.out HB3.out)
    have HRL := Aside0.mk (Kd.R_lower HR2.out (show w.heap.size ≤ W2.drew.heap.size from HB.out.size))
    clear HF HB HO HT HKB HCF HCD HB3
    go_wp2
    go_roundw
    case rel =>
     refine ⟨A3, A9, no + 1, c3, n9, c9, (kids l0 p.2.f0).map (fun y => (p.1 + 1, y)) ++ T', dn ++ [x], rfl, rfl, HO9, ⟨?_⟩, ⟨by rw [← Hx.out]; exact HE2.out⟩, HP2, HD9, HB9⟩
     rw [show nds ((kids l0 p.2.f0).map (fun y => (p.1 + 1, y)) ++ T') = ks ++ tl by rw [← Htl.out, ← Hks.out, ← Hx.out]; unfold nds; rw [List.map_append]; exact congrArg (· ++ _) (nds_dep _ _)]
     exact HRL.out
    case measure => have := HNO.out; simp [lenV]; omega
  ·
   obtain rfl : T = [] := List.eq_nil_of_length_eq_zero (by have := HLT.out; omega)
   have HE : Aside0 (dn = nds (ordOf l0)) := ⟨by rw [← HE.out]; simp [restOf, nds]⟩
   rw [HE.out] at HO
   go_wp2
   go_ret
   exact ⟨_, rfl, HO.out, HB.out⟩
end Go.Proofs.YtmbndijbpgobeaaGreat.PWalk
end
section
namespace Go.Proofs.YtmbndijbpgobeaaGreat.PWalk
open Go.RowKit Go.Proofs.YtmbndijbpgobeaaGreatW.PrintWords Go.Proofs.YtmbndijbpgobeaaGreatW.PrintLast Go.Proofs.YtmbndijbpgobeaaGreatW.PrintMore
attribute [local go_sem] max2_int max_two
set_option linter.unusedVariables false
set_option linter.unusedSimpArgs false
def redpencilref14_Visible.l0 : Nat → List (S53) → List (S53) → Int → Option ((List (S53)))
 | 0, _, _, _ => none
 | k + 1, x3, x4, x5 => if x5 < (x4.length : Int) then (if 0 ≤ x5 then (if ((rd_T53 x4 x5).f3) = 0 then (redpencilref14_Visible.l0 k x3 x4 (wrap64 (x5 + 1))) else (if x3.length < 2932031007402 then (redpencilref14_Visible.l0 k (x3 ++ [(⟨(⟨(rd_T53 x4 x5).f0.f0, (rd_T53 x4 x5).f0.f1⟩ : S25), (⟨(rd_T53 x4 x5).f1.f0, (rd_T53 x4 x5).f1.f1⟩ : S25), (rd_T53 x4 x5).f2, (rd_T53 x4 x5).f3⟩ : S53)]) x4 (wrap64 (x5 + 1))) else (none))) else (none)) else (some x3)
def redpencilref14_Visible.f (k : Nat) (l0 : List (S53)) : Option ((List (S53))) := (redpencilref14_Order.f l0).bind fun t264 => (redpencilref14_Visible.l0 k ([] : List (S53)) t264 0)
set_option maxHeartbeats 8000000 in
set_option maxRecDepth 100000 in
theorem redpencilref14_Visible.calls (k : Nat) (A0 : Option Addr) (c0 : Nat) (l0 : List (S53)) (r : List (S53)) (w : World) (hr0 : Kd.C k53 w A0 l0.length l0) (hc0 : l0.length ≤ c0) (h : redpencilref14_Visible.f k l0 = some r) :
  Calls Tryz.prog 38 #[.slice A0 l0.length c0] w fun e w' => ∃ v0_ : Value, e = .returned (v0_) ∧ Kd.R k53 53 w' w.heap.size (fun _ => True) v0_ r ∧ Below w.heap.size w w' := by
 have hu53 := Tryz.underlying53
 have HR0 := Aside0.mk hr0
 have HC0 := Aside0.mk hc0
 clear hr0 hc0
 have HB := Aside0.mk (Below.refl w.heap.size w)
 have H : ((redpencilref14_Order.f l0).bind fun t264 => (redpencilref14_Visible.l0 k ([] : List (S53)) t264 0)) = some r := h
 clear h
 replace H := Option.bind_eq_some_iff.mp H
 obtain ⟨t264, A20, H⟩ := H
 replace H : (redpencilref14_Visible.l0 k ([] : List (S53)) t264 0) = some r := H
 have A2 := Aside0.mk A20
 clear A20
 have H' := Aside0.mk H
 clear H
 go_enter Tryz.func38, Tryz.ntmps38
 go_wp2_with (first | ((with_reducible refine gate_callee (f := 62) rfl ?_); refine goesL_ (some 7) rfl rfl Tryz.func62 (by kernel_rfl) rfl #[.slice A0 l0.length c0] rfl (by (try simp only [List.map_toArray, List.map_cons, List.map_nil]); first | done | rfl | (simp only [List.length_drop, List.length_take]; rfl)) ?_; (with_reducible refine (redpencilref14_Order.calls _ _ l0 t264 _ ?side1 ?side2 A2.out).mono ?_); (case side1 => repeat (first | exact HR0.out | (with_reducible refine Kd.C_alloc ?_ _) | (with_reducible refine Kd.C_drewN ?_ _) | (with_reducible refine Kd.C_drew ?_))); (case side2 => exact HC0.out); rintro e w3 ⟨v265, rfl, ho0, hb⟩; refine ⟨_, rfl, ?_⟩; have n0_ := Aside0.mk (Kd.R_lower ho0 (below_size (by repeat (first | (with_reducible first | exact HB.out | apply below_alloc | apply pw_below_drewN | apply below_drew1) | exact HB.out)))); have n1_ := Aside0.mk (below_step (by repeat (first | (with_reducible first | exact HB.out | apply below_alloc | apply pw_below_drewN | apply below_drew1) | exact HB.out)) hb); clear HB; have HO266 := n0_; have HB := n1_; clear n0_ n1_; (try clear hb); (try clear hb2); (try clear hk); (try clear hi); (try clear ho0)))
 go_loopg [3, 5] k (fun kq v3 v5 w' => ∃ (x3_1 : List (S53)) (x5_1 : Int), v5 = .int .i64 x5_1 ∧ Aside0 (redpencilref14_Visible.l0 kq x3_1 t264 x5_1 = some r) ∧ Aside0 (kq ≤ k) ∧ Aside0 (Kd.R k53 53 w' w.heap.size (fun k_ => some k_ ≠ (v265 : Value).ownBlock) v3 x3_1) ∧ Aside0 (Kd.R k53 53 w' w.heap.size (fun k_ => some k_ ≠ (v3 : Value).ownBlock) v265 t264) ∧ Aside0 (Below w.heap.size w w'))
 case atStart => exact ⟨(([] : List (S53))), (0), (by first | rfl | (simp; done) | (simp [*]; done)), H', ⟨Nat.le_refl _⟩, ⟨by first | exact Kd.R_nil _ _ _ _ _ | exact Kd.N_nil _ _ _ _ _ | exact Kd.V_nil _ _ _ _ _ | exact Kd.Q_nil _ _ _ _ _ | exact Kd.S_nil _ _ _ _ _⟩, ⟨by (with_reducible repeat (first | apply Kd.R_alloc | apply Kd.R_drewN | apply Kd.R_drew)); exact Kd.R_mono HO266.out (fun _ hk => (by simp [Value.ownBlock]))⟩, ⟨by repeat (first | (with_reducible first | exact HB.out | apply below_alloc | apply pw_below_drewN | apply below_drew1) | exact HB.out)⟩⟩
 case round =>
  clear H'
  try clear p2
  try clear c3
  obtain ⟨x3_1, x5_1, rfl, HA, HK1, HO_3, HO_4, HB⟩ := hrel
  cases gk with
  | zero => exact absurd HA.out (by simp [redpencilref14_Visible.l0])
  | succ k1 =>
   have H := HA.out
   clear HA
   simp only [redpencilref14_Visible.l0] at H
   by_cases c4 : x5_1 < (t264.length : Int)
   ·
    rw [if_pos c4] at H
    have c4b0 : decide (x5_1 < (t264.length : Int)) = true := decide_eq_true c4
    clear c4
    by_cases c5 : 0 ≤ x5_1
    ·
     rw [if_pos c5] at H
     have c5b0 : decide (0 ≤ x5_1) = true := decide_eq_true c5
     clear c5
     by_cases c6 : ((rd_T53 t264 x5_1).f3) = 0
     ·
      rw [if_pos c6] at H
      have c6b0 : (((rd_T53 t264 x5_1).f3) == 0) = true := beq_iff_eq.mpr c6
      have c6b1 : (((rd_T53 t264 x5_1).f3) != 0) = false := bne_eq_false_iff_eq.mpr c6
      clear c6
      have H' := Aside0.mk H
      clear H
      obtain ⟨Ao7, co7, eo7⟩ := Kd.R_slice HO_4.out
      subst eo7
      have p267 : 0 ≤ (x5_1 : Int) := of_decide_eq_true (by first | (with_reducible assumption) | assumption)
      have q267 : x5_1 < (t264.length : Int) := of_decide_eq_true (by first | (with_reducible assumption) | assumption)
      obtain ⟨ad267, e267, hx267_0, hx267_1, hx267_2, hx267_3, hx267_4, hx267_5⟩ := at_T53 (Kd.R_reads' HO_4.out).2.2 x5_1 p267 q267
      cases e267
      replace p267 := eq_true p267
      replace q267 := eq_true q267
      go_wp2
      go_roundg k1
      case measure => have := HK1.out; omega
      case rel => exact ⟨(x3_1), (wrap64 (x5_1 + 1)), (by first | rfl | (simp; done) | (simp [*]; done)), H', ⟨by have := HK1.out; omega⟩, ⟨by (with_reducible repeat (first | apply Kd.R_alloc | apply Kd.R_drewN | apply Kd.R_drew)); exact HO_3.out⟩, ⟨by (with_reducible repeat (first | apply Kd.R_alloc | apply Kd.R_drewN | apply Kd.R_drew)); exact HO_4.out⟩, ⟨by repeat (first | (with_reducible first | exact HB.out | apply below_alloc | apply pw_below_drewN | apply below_drew1) | exact HB.out)⟩⟩
     ·
      rw [if_neg c6] at H
      have c6b0 : (((rd_T53 t264 x5_1).f3) == 0) = false := beq_eq_false_iff_ne.mpr c6
      have c6b1 : (((rd_T53 t264 x5_1).f3) != 0) = true := bne_iff_ne.mpr c6
      by_cases c8 : x3_1.length < 2932031007402
      ·
       rw [if_pos c8] at H
       have LMc8 := Aside0.mk c8
       clear c8
       obtain ⟨y269, hy269⟩ : ∃ y_ : List (S53), y_ = (x3_1 ++ [(⟨(⟨(rd_T53 t264 x5_1).f0.f0, (rd_T53 t264 x5_1).f0.f1⟩ : S25), (⟨(rd_T53 t264 x5_1).f1.f0, (rd_T53 t264 x5_1).f1.f1⟩ : S25), (rd_T53 t264 x5_1).f2, (rd_T53 t264 x5_1).f3⟩ : S53)]) := ⟨_, rfl⟩
       replace H : (redpencilref14_Visible.l0 k1 y269 t264 (wrap64 (x5_1 + 1))) = some r := by first | (rw [hy269]; with_reducible exact H) | (have H2_ := (Option.bind_some _ _).symm.trans H; rw [hy269]; with_reducible exact H2_) | (have H2_ := (Option.bind_some _ _).symm.trans H; with_reducible exact H2_) | with_reducible exact H | (rw [hy269]; exact H) | exact H
       have Ny269 := Aside0.mk hy269
       clear hy269
       have H' := Aside0.mk H
       clear H
       obtain ⟨Ao9, co9, eo9⟩ := Kd.R_slice HO_4.out
       subst eo9
       have p267 : 0 ≤ (x5_1 : Int) := of_decide_eq_true (by first | (with_reducible assumption) | assumption)
       have q267 : x5_1 < (t264.length : Int) := of_decide_eq_true (by first | (with_reducible assumption) | assumption)
       obtain ⟨ad267, e267, hx267_0, hx267_1, hx267_2, hx267_3, hx267_4, hx267_5⟩ := at_T53 (Kd.R_reads' HO_4.out).2.2 x5_1 p267 q267
       cases e267
       replace p267 := eq_true p267
       replace q267 := eq_true q267
       have p268 : 0 ≤ (x5_1 : Int) := of_decide_eq_true (by first | (with_reducible assumption) | assumption)
       have q268 : x5_1 < (t264.length : Int) := of_decide_eq_true (by first | (with_reducible assumption) | assumption)
       obtain ⟨ad268, e268, hx268_0, hx268_1, hx268_2, hx268_3, hx268_4, hx268_5⟩ := at_T53 (Kd.R_reads' HO_4.out).2.2 x5_1 p268 q268
       obtain rfl : ad267 = ad268 := (by injection e268)
       replace p268 := eq_true p268
       replace q268 := eq_true q268
       go_wp2_with (first | ((with_reducible refine gate_builtin (b := .append) (xs := #[.tmp 20, .tmp 25]) rfl ?_); at_builtin; refine Kd.R_append k53 (w0 := w) w.heap.size rfl (.tmp 20) (.tmp 25) 23 53 (.agg #[(.int .i64 0), (.int .i64 0), (.int .i64 0), (.int .i64 0), (.int .i64 0), (.int .i32 0)]) 48 rfl Tryz.underlying23 info53 rfl (by decide) (by omega) u3 x3_1 (⟨(⟨(rd_T53 t264 x5_1).f0.f0, (rd_T53 t264 x5_1).f0.f1⟩ : S25), (⟨(rd_T53 t264 x5_1).f1.f0, (rd_T53 t264 x5_1).f1.f1⟩ : S25), (rd_T53 t264 x5_1).f2, (rd_T53 t264 x5_1).f3⟩ : S53) [.int .i64 ((rd_T53 t264 x5_1).f0.f0), .int .i64 ((rd_T53 t264 x5_1).f0.f1), .int .i64 ((rd_T53 t264 x5_1).f1.f0), .int .i64 ((rd_T53 t264 x5_1).f1.f1), .int .i64 ((rd_T53 t264 x5_1).f2), .int .i32 ((rd_T53 t264 x5_1).f3)] (fun k_ => some k_ ≠ (.slice (some ad267) t264.length co9 : Value).ownBlock) (fun _ => False) rfl rfl ?aP (fun _ hk => hk.elim) ?aF ?aO ?aB ?aS ?aL ?_; (case aP => exact k53_mkM _ _ _ (⟨(⟨(rd_T53 t264 x5_1).f0.f0, (rd_T53 t264 x5_1).f0.f1⟩ : S25), (⟨(rd_T53 t264 x5_1).f1.f0, (rd_T53 t264 x5_1).f1.f1⟩ : S25), (rd_T53 t264 x5_1).f2, (rd_T53 t264 x5_1).f3⟩ : S53)); (case aB => exact (by repeat (first | (with_reducible first | exact HB.out | apply below_alloc | apply pw_below_drewN | apply below_drew1) | exact HB.out))); (case aF => exact (fun k_ hk => Kd.fresh' (Kd.R_lt (by (with_reducible repeat (first | apply Kd.R_alloc | apply Kd.R_drewN | apply Kd.R_drew)); exact HO_4.out)) k_ hk)); (case aO => exact (by (with_reducible repeat (first | apply Kd.R_alloc | apply Kd.R_drewN | apply Kd.R_drew)); exact HO_3.out)); (case aS => exact (below_size (by repeat (first | (with_reducible first | exact HB.out | apply below_alloc | apply pw_below_drewN | apply below_drew1) | exact HB.out)))); (case aL => have := LMc8.out; omega); intro v270 w10 ho hb hg hat; rw [← Ny269.out] at ho; have n0_ := Aside0.mk (Kd.R_after (ok := (fun _ => True)) (by (with_reducible repeat (first | apply Kd.R_alloc | apply Kd.R_drewN | apply Kd.R_drew)); exact Kd.R_mono HO_4.out (fun _ hk => ⟨trivial, hk⟩)) hg hat); have n1_ := Aside0.mk (hb); have n2_ := Aside0.mk (ho); clear HO_4; clear HB; clear HO_3; have HO_4 := n0_; have HB := n1_; have HO271 := n2_; clear n0_ n1_ n2_; clear ho hb hg hat))
       go_roundg k1
       case measure => have := HK1.out; omega
       case rel => exact ⟨(y269), (wrap64 (x5_1 + 1)), (by first | rfl | (simp; done) | (simp [*]; done)), H', ⟨by have := HK1.out; omega⟩, ⟨by (with_reducible repeat (first | apply Kd.R_alloc | apply Kd.R_drewN | apply Kd.R_drew)); exact HO271.out⟩, ⟨by (with_reducible repeat (first | apply Kd.R_alloc | apply Kd.R_drewN | apply Kd.R_drew)); exact Kd.R_mono HO_4.out (fun _ hk => hk.2)⟩, ⟨by repeat (first | (with_reducible first | exact HB.out | apply below_alloc | apply pw_below_drewN | apply below_drew1) | exact HB.out)⟩⟩
      ·
       rw [if_neg c8] at H
       exact absurd H (by simp)
    ·
     rw [if_neg c5] at H
     exact absurd H (by simp)
   ·
    rw [if_neg c4] at H
    have c4b0 : decide (x5_1 < (t264.length : Int)) = false := decide_eq_false c4
    clear c4
    obtain rfl := Option.some.inj H
    obtain ⟨Ao11, co11, eo11⟩ := Kd.R_slice HO_4.out
    subst eo11
    go_wp2
    go_ret
    exact ⟨_, by first | rfl | (simp [errW_none, errW_some] <;> rfl) | (simp [*, errW_none, errW_some] <;> rfl), by (with_reducible repeat (first | apply Kd.R_alloc | apply Kd.R_drewN | apply Kd.R_drew)); exact Kd.R_mono HO_3.out (fun _ hk => trivial), by repeat (first | (with_reducible first | exact HB.out | apply below_alloc | apply pw_below_drewN | apply below_drew1) | exact HB.out)⟩
end Go.Proofs.YtmbndijbpgobeaaGreat.PWalk
end
