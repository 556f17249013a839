/-
  The law EditHolds of layer 15 holds for all states and pairs of edits. Part 12 of 12.
-/
import Derived.Test.YtmbndijbpgobeaaGreatHK
import Derived.Test.YtmbndijbpgobeaaGreatRows
import Derived.WalkKit
import Derived.ProofKit
import Derived.OpenShut
import Derived.ShutString
import Derived.ChangeOld
import Derived.Below
import Derived.SizedLaws
import Derived.Deep.DeepHandedRow
import Derived.Deep.Slices
import Derived.Lib.SmallJoins
section
namespace Go.Proofs.YtmbndijbpgobeaaGreat.PWalk
open Go.RowKit Go.Proofs.YtmbndijbpgobeaaGreatW.PrintWords Go.Proofs.YtmbndijbpgobeaaGreatW.PrintLast Go.Proofs.YtmbndijbpgobeaaGreatW.PrintMore
set_option linter.unusedVariables false
set_option linter.unusedSimpArgs false
open Go.Shelf
attribute [local go_sem] Oper.semAt_some
section
theorem merge_comm {u v : Node} (h : agreeJ u v = true) : mergeJ u v = mergeJ v u := by
 obtain ⟨h0, h1, h2, h3⟩ := of_decide_eq_true h
 have h' : agreeJ v u = true := decide_eq_true ⟨h0.symm, h1.symm, h2.symm, by omega⟩
 unfold mergeJ
 rw [if_pos h, if_pos h']
 have he : u.f3 = v.f3 → u = v := fun e => by cases u; cases v; simp only at h0 h1 h2 e; rw [h0, h1, h2, e]
 by_cases hu : u.f3 = 0
 ·
  rw [if_pos hu]
  by_cases hv : v.f3 = 0
  ·
   rw [if_pos hv]; exact (he (hu.trans hv.symm)).symm
  ·
   rw [if_neg hv]
 ·
  rw [if_neg hu]
  by_cases hv : v.f3 = 0
  ·
   rw [if_pos hv]
  ·
   rw [if_neg hv]; exact he (by omega)
theorem agree_comm {u v : Node} (h : agreeJ u v = true) : agreeJ v u = true := by
 obtain ⟨h0, h1, h2, h3⟩ := of_decide_eq_true h
 exact decide_eq_true ⟨h0.symm, h1.symm, h2.symm, by omega⟩
theorem merge_same {u v : Node} (h : agreeJ u v = true) : (mergeJ u v).f0 = u.f0 ∧ (mergeJ u v).f1 = u.f1 ∧ (mergeJ u v).f2 = u.f2 := by
 obtain ⟨h0, h1, h2, h3⟩ := of_decide_eq_true h
 rcases (mergeJ_dot h).2 with e | e <;> rw [e]
 ·
  exact ⟨rfl, rfl, rfl⟩
 ·
  exact ⟨h0.symm, h1.symm, h2.symm⟩
section
variable {x y : List Node} (hx : Inc x) (hy : Inc y) (ha : ∀ u ∈ x, ∀ v ∈ y, u.f0 = v.f0 → agreeJ u v = true)
include hx hy ha
theorem join_comm : joinJ x y = joinJ y x := by
 obtain ⟨i1, m1⟩ := joinJ_mem hx hy ha
 obtain ⟨i2, m2⟩ := joinJ_mem hy hx fun v hv u hu e => agree_comm (ha u hu v hv e.symm)
 refine inc_ext i1 i2 fun z => (m1 z).trans (Iff.trans ?_ (m2 z).symm)
 unfold InJoin
 constructor
 ·
  rintro (h | h | ⟨u, hu, v, hv, e, rfl⟩)
  ·
   exact .inr (.inl h)
  ·
   exact .inl h
  ·
   exact .inr (.inr ⟨v, hv, u, hu, e.symm, merge_comm (ha u hu v hv e)⟩)
 ·
  rintro (h | h | ⟨v, hv, u, hu, e, rfl⟩)
  ·
   exact .inr (.inl h)
  ·
   exact .inl h
  ·
   exact .inr (.inr ⟨u, hu, v, hv, e.symm, (merge_comm (ha u hu v hv e.symm)).symm⟩)
theorem join_has {u : Node} (hu : u ∈ x) : ∃ z ∈ joinJ x y, z.f0 = u.f0 ∧ z.f1 = u.f1 ∧ z.f2 = u.f2 := by
 obtain ⟨_, m1⟩ := joinJ_mem hx hy ha
 by_cases h : ∃ v ∈ y, v.f0 = u.f0
 ·
  obtain ⟨v, hv, e⟩ := h
  exact ⟨mergeJ u v, (m1 _).2 (.inr (.inr ⟨u, hu, v, hv, e.symm, rfl⟩)), merge_same (ha u hu v hv e.symm)⟩
 ·
  exact ⟨u, (m1 _).2 (.inl ⟨hu, fun v hv e => h ⟨v, hv, e⟩⟩), rfl, rfl, rfl⟩
theorem join_from {z : Node} (hz : z ∈ joinJ x y) : (∃ u ∈ x, z.f0 = u.f0 ∧ z.f1 = u.f1 ∧ z.f2 = u.f2) ∨ ∃ v ∈ y, z.f0 = v.f0 ∧ z.f1 = v.f1 ∧ z.f2 = v.f2 := by
 obtain ⟨_, m1⟩ := joinJ_mem hx hy ha
 rcases (m1 z).1 hz with ⟨h, _⟩ | ⟨h, _⟩ | ⟨u, hu, v, hv, e, rfl⟩
 ·
  exact .inl ⟨z, h, rfl, rfl, rfl⟩
 ·
  exact .inr ⟨z, h, rfl, rfl, rfl⟩
 ·
  exact .inl ⟨u, hu, merge_same (ha u hu v hv e)⟩
end
theorem well_nodes {x : List Node} (h : wellB x = true) {u : Node} (hu : u ∈ x) : dotRoot u.f1 = true ∨ ∃ p ∈ x, p.f0 = u.f1 ∧ p.f2 < u.f2 := by
 have hs := well_store (List.isEmpty_iff.1 h)
 rw [well_good hs, List.all_eq_true] at h
 exact (good_iff (store_inc hs)).1 (h u hu)
theorem join_well {x y : List Node} (hwx : wellB x = true) (hwy : wellB y = true) (ha : ∀ u ∈ x, ∀ v ∈ y, u.f0 = v.f0 → agreeJ u v = true) : wellB (joinJ x y) = true := by
 have hsx := well_store (List.isEmpty_iff.1 hwx)
 have hsy := well_store (List.isEmpty_iff.1 hwy)
 have hix := store_inc hsx
 have hiy := store_inc hsy
 have hs := (join_store hsx hsy ((agree_all hiy).2 ha)).2.1
 rw [well_good hs, List.all_eq_true]
 intro z hz
 refine (good_iff (store_inc hs)).2 ?_
 rcases join_from hix hiy ha hz with ⟨u, hu, e0, e1, e2⟩ | ⟨u, hu, e0, e1, e2⟩
 ·
  rw [e1, e2]
  rcases well_nodes hwx hu with h | ⟨p, hp, q1, q2⟩
  ·
   exact .inl h
  ·
   obtain ⟨w, hw, w0, w1, w2⟩ := join_has hix hiy ha hp
   exact .inr ⟨w, hw, w0.trans q1, by omega⟩
 ·
  rw [e1, e2]
  rcases well_nodes hwy hu with h | ⟨p, hp, q1, q2⟩
  ·
   exact .inl h
  ·
   obtain ⟨w, hw, w0, w1, w2⟩ := join_has hiy hix (fun v hv u hu e => agree_comm (ha u hu v hv e.symm)) hp
   rw [← join_comm hix hiy ha] at hw
   exact .inr ⟨w, hw, w0.trans q1, by omega⟩
theorem dead_agree (ds es : List Dot) (p : Node) : agreeJ (deadD ds p) (deadD es p) = true := by
 have h1 := deadD_keeps ds p
 have h2 := deadD_keeps es p
 refine decide_eq_true ⟨h1.1.trans h2.1.symm, h1.2.1.trans h2.2.1.symm, h1.2.2.trans h2.2.2.symm, ?_⟩
 unfold deadD
 split
 ·
  exact .inl rfl
 ·
  split
  ·
   exact .inr (.inl rfl)
  ·
   exact .inr (.inr rfl)
section
variable {l : List Node} {d e : Dot} {a n b m : Nat} {rs ts : List Int} (H : EdOk l d a n rs) (G : EdOk l e b m ts) (hd : ∀ x ∈ l, x.f0.f0 ≠ d.f0) (he : ∀ x ∈ l, x.f0.f0 ≠ e.f0) (hde : d.f0 ≠ e.f0)
include H G hd he hde
theorem two_same {u v : Node} (hu : u ∈ joinJ l (deltaE l d a n rs)) (hv : v ∈ joinJ l (deltaE l e b m ts)) (h : u.f0 = v.f0) : ∃ p ∈ l, u = deadD ((cutV l a n).map (·.f0)) p ∧ v = deadD ((cutV l b m).map (·.f0)) p := by
 rcases H.after_mem.1 hu with ⟨p, hp, rfl⟩ | ⟨i, hi, rfl⟩
 ·
  rcases G.after_mem.1 hv with ⟨q, hq, rfl⟩ | ⟨j, hj, rfl⟩
  ·
   rw [deadD_dot, deadD_dot] at h
   have := inc_of_mem (store_inc H.store) hp hq h
   subst this
   exact ⟨p, hp, rfl, rfl⟩
  ·
   rw [deadD_dot] at h
   exact absurd (congrArg (fun q : Dot => q.f0) h) (he p hp)
 ·
  rcases G.after_mem.1 hv with ⟨q, hq, rfl⟩ | ⟨j, hj, rfl⟩
  ·
   rw [deadD_dot] at h
   exact absurd (congrArg (fun q : Dot => q.f0) h).symm (hd q hq)
  ·
   exact absurd (congrArg (fun q : Dot => q.f0) h) hde
theorem two_agree : ∀ u ∈ joinJ l (deltaE l d a n rs), ∀ v ∈ joinJ l (deltaE l e b m ts), u.f0 = v.f0 → agreeJ u v = true := fun u hu v hv h => by
 obtain ⟨p, _, rfl, rfl⟩ := two_same H G hd he hde hu hv h
 exact dead_agree _ _ p
theorem two_apply : applyR (joinJ l (deltaE l d a n rs)) (joinJ l (deltaE l e b m ts)) = (joinJ (joinJ l (deltaE l d a n rs)) (joinJ l (deltaE l e b m ts)), runesOf (joinJ (joinJ l (deltaE l d a n rs)) (joinJ l (deltaE l e b m ts))), 0) := by
 unfold applyR
 rw [if_pos ⟨H.after_ok, G.after_ok⟩, if_pos ((agree_all (store_inc G.after_ok)).2 (two_agree H G hd he hde))]
theorem two_comm : joinJ (joinJ l (deltaE l d a n rs)) (joinJ l (deltaE l e b m ts)) = joinJ (joinJ l (deltaE l e b m ts)) (joinJ l (deltaE l d a n rs)) :=
 join_comm (store_inc H.after_ok) (store_inc G.after_ok) (two_agree H G hd he hde)
theorem two_well : wellB (joinJ (joinJ l (deltaE l d a n rs)) (joinJ l (deltaE l e b m ts))) = true := join_well H.after_well G.after_well (two_agree H G hd he hde)
theorem two_seen {z : Node} (hz : z ∈ joinJ (joinJ l (deltaE l d a n rs)) (joinJ l (deltaE l e b m ts))) (h : z.f0.f0 = d.f0 ∨ z.f0.f0 = e.f0) : z.f3 ≠ 0 := by
 have hc : ∀ (q : Dot) (p : Dot) (t : Int) (us : List Int) (i : Nat), (∀ r ∈ us, runeOk r = true) → i < us.length → (nodeE q p t us i).f3 ≠ 0 := fun q p t us i hr hi => by
  show us.getD i 0 ≠ 0
  rw [List.getD_eq_getElem?_getD, List.getElem?_eq_getElem hi]
  exact (of_decide_eq_true (hr _ (List.getElem_mem hi))).1
 have hl : ∀ p ∈ l, ¬ (p.f0.f0 = d.f0 ∨ p.f0.f0 = e.f0) := fun p hp h => h.elim (hd p hp) (he p hp)
 obtain ⟨_, m1⟩ := joinJ_mem (store_inc H.after_ok) (store_inc G.after_ok) (two_agree H G hd he hde)
 rcases (m1 z).1 hz with ⟨h1, _⟩ | ⟨h1, _⟩ | ⟨u, hu, v, hv, e1, rfl⟩
 ·
  rcases H.after_mem.1 h1 with ⟨p, hp, rfl⟩ | ⟨i, hi, rfl⟩
  ·
   rw [deadD_dot] at h; exact absurd h (hl p hp)
  ·
   exact hc _ _ _ _ _ H.run hi
 ·
  rcases G.after_mem.1 h1 with ⟨p, hp, rfl⟩ | ⟨i, hi, rfl⟩
  ·
   rw [deadD_dot] at h; exact absurd h (hl p hp)
  ·
   exact hc _ _ _ _ _ G.run hi
 ·
  obtain ⟨p, hp, e2, e3⟩ := two_same H G hd he hde hu hv e1
  have ha := two_agree H G hd he hde u hu v hv e1
  rw [(merge_same ha).1, e2, deadD_dot] at h
  exact absurd h (hl p hp)
end
/-- An edit by a replica that a state does not know. -/
theorem new_edit {l : List Node} {r : Int} {a n : Nat} {rs : List Int} (hw : wellB l = true) (hr : 1 ≤ r ∧ r ≤ 64) (hsp : a + n ≤ (visOf l).length) (hrun : ∀ r ∈ rs, runeOk r = true) (hm : rs.length ≤ 5) (ht : lastOf l ≤ 4611686018427387884) (hno : ∀ x ∈ l, x.f0.f0 ≠ r) : EdOk l ⟨r, 1⟩ a n rs where
 well := hw
 dot := decide_eq_true ⟨hr.1, hr.2, Int.le_refl _, by show (1 : Int) ≤ 4294967295; omega⟩
 span := hsp
 run := hrun
 cnt := by show (1 : Int) + (rs.length : Int) ≤ 4294967296; omega
 tim := by omega
 busy := by
  unfold busyE
  rw [List.any_eq_false]
  intro i hi
  rw [decide_eq_true_eq]
  intro h
  obtain ⟨x, hx, e⟩ := List.mem_map.1 h
  exact hno x hx (congrArg (fun q : Dot => q.f0) e)
end
end Go.Proofs.YtmbndijbpgobeaaGreat.PWalk
end
section
namespace Go.Proofs.YtmbndijbpgobeaaGreat.PWalk
open Go.RowKit Go.Proofs.YtmbndijbpgobeaaGreatW.PrintWords Go.Proofs.YtmbndijbpgobeaaGreatW.PrintLast Go.Proofs.YtmbndijbpgobeaaGreatW.PrintMore
attribute [local go_sem] max2_int max_two
set_option linter.unusedVariables false
set_option linter.unusedSimpArgs false
section
mutual
def redpencillaw15_right.l0 : Nat → Int → Int → Int → List Int → Option (Bool)
 | 0, _, _, _, _ => none
 | k + 1, x3, x341000, x341001, x341002 => if x3 < (x341002.length : Int) then (redpencillaw15_right.j1 k x3 (decide (x3 < 6)) x341000 x341001 x341002) else (redpencillaw15_right.j1 k x3 false x341000 x341001 x341002)
def redpencillaw15_right.j1 : Nat → Int → Bool → Int → Int → List Int → Option (Bool)
 | 0, _, _, _, _, _ => none
 | k + 1, x3, x12, x341000, x341001, x341002 => if x12 = true then (if 0 ≤ x3 then (if x3 < (x341002.length : Int) then ((redpencilref14_IsRune.f (rd x341002 x3)).bind fun t342 => (if t342 = true then (redpencillaw15_right.l0 k (wrap64 (x3 + 1)) x341000 x341001 x341002) else (some false))) else (none)) else (none)) else (some (decide ((x341002.length : Int) ≤ 5)))
end
def redpencillaw15_right.f (k : Nat) (a0_0 : Int) (a0_1 : Int) (l0_2 : List Int) : Option (Bool) := redpencillaw15_right.l0 k 0 a0_0 a0_1 l0_2
set_option maxHeartbeats 8000000 in
set_option maxRecDepth 100000 in
theorem redpencillaw15_right.calls (k : Nat) (a0_0 : Int) (a0_1 : Int) (A0_2 : Option Addr) (c0_2 : Nat) (l0_2 : List Int) (r : Bool) (w : World) (hr0_2 : Kd.C (Kd.int .i32) w A0_2 l0_2.length l0_2) (hc0_2 : l0_2.length ≤ c0_2) (h : redpencillaw15_right.f k a0_0 a0_1 l0_2 = some r) :
  Calls Tryz.prog 33 #[.agg #[.int .u8 a0_0, .int .u8 a0_1, .slice A0_2 l0_2.length c0_2]] w fun e w' => e = .returned (.bool r) ∧ Below w.heap.size w w' := by
 have hu59 := Tryz.underlying59
 have HR0_2 := za0.mk hr0_2
 have HC0_2 := za0.mk hc0_2
 clear hr0_2 hc0_2
 have HB := za0.mk (Below.refl w.heap.size w)
 have H : (redpencillaw15_right.l0 k 0 a0_0 a0_1 l0_2) = some r := h
 clear h
 have H' := za0.mk H
 clear H
 go_enter Tryz.func33, Tryz.ntmps33
 go_wp2_with (first | ((with_reducible refine zaq (N := 1) rfl ?_); refine zao ?hg (N := 1) ?hd (cs := #[.int .u8 a0_0, .int .u8 a0_1, .slice A0_2 l0_2.length c0_2]) (t := 59) ?hr ?_; (case hd => rfl); (case hg => rfl); (case hr => first | (go_simp; done) | (go_simp; rfl)); intro gb340 hg w2 hbox hb; have n0_ := za0.mk (zaa (by repeat (first | (with_reducible first | exact HB.out | apply za2 | apply za1 | apply za3) | exact HB.out)) hb); have n1_ := za0.mk (hbox); have n2_ := za0.mk ((by rw [hg]; exact (za9 (by repeat (first | (with_reducible first | exact HB.out | apply za2 | apply za1 | apply za3) | exact HB.out))) : w.heap.size ≤ gb340)); have n3_ := za0.mk ((by rw [hg]; exact (za9 (by repeat (first | (with_reducible first | exact HB.out | apply za2 | apply za1 | apply za3) | exact HB.out))) : w.heap.size ≤ gb340)); clear HB; have HB := n0_; have BK340 := n1_; have GW340 := n2_; have GE340 := n3_; clear n0_ n1_ n2_ n3_; clear hb hbox hg))
 go_loopg [3] k (fun kq v3 w' => ∃ (x3_1 : Int), v3 = .int .i64 x3_1 ∧ za0 (redpencillaw15_right.l0 kq x3_1 a0_0 a0_1 l0_2 = some r) ∧ za0 (kq ≤ k) ∧ za0 (w'.heap[gb340]? = some (.cells #[.int .u8 a0_0, .int .u8 a0_1, (.slice A0_2 l0_2.length c0_2)] 59 (0, 0))) ∧ za0 (Below w.heap.size w w'))
 case atStart => exact ⟨(0), (by first | rfl | (simp; done) | (simp [*]; done)), H', ⟨Nat.le_refl _⟩, ⟨by (with_reducible repeat (first | refine zaj ?_ _ | refine zah ?_ | refine zad ?_ _)); exact BK340.out⟩, ⟨by repeat (first | (with_reducible first | exact HB.out | apply za2 | apply za1 | apply za3 | refine zae ?_ GE340.out) | exact HB.out)⟩⟩
 case round =>
  clear H'
  try clear p2
  obtain ⟨x3_1, rfl, HA, HK1, BK340, HB⟩ := hrel
  cases gk with
  | zero => exact absurd HA.out (by simp [redpencillaw15_right.l0])
  | succ k1 =>
   have H := HA.out
   clear HA
   simp only [redpencillaw15_right.l0] at H
   have HC3 := za0.mk H
   clear H
   go_upto_region 2 with (fail)
   go_cut [12] (fun v12 wc => ∃ (kq : Nat) (x12_2 : Bool), v12 = .bool x12_2 ∧ za0 (redpencillaw15_right.j1 kq x3_1 x12_2 a0_0 a0_1 l0_2 = some r) ∧ za0 (kq ≤ k1) ∧ za0 (wc.heap[gb340]? = some (.cells #[.int .u8 a0_0, .int .u8 a0_1, (.slice A0_2 l0_2.length c0_2)] 59 (0, 0))) ∧ za0 (Below w.heap.size w wc))
   case first =>
    have H := HC3.out
    clear HC3
    by_cases c4 : x3_1 < (l0_2.length : Int)
    ·
     rw [if_pos c4] at H
     have c4b0 : decide (x3_1 < (l0_2.length : Int)) = true := decide_eq_true c4
     clear c4
     (first | rw [c4b0] | (simp only [i64_w, i32_w]; rw [c4b0]) | rw [c4b1] | skip)
     have H' := za0.mk H
     clear H
     have hcz5_0 : wr.cell? ⟨gb340, 0, none⟩ = some (.int .u8 a0_0) := (za4 BK340.out 0).trans rfl
     have hcz5_1 : wr.cell? ⟨gb340, 1, none⟩ = some (.int .u8 a0_1) := (za4 BK340.out 1).trans rfl
     have hcz5_2 : wr.cell? ⟨gb340, 2, none⟩ = some (.slice A0_2 l0_2.length c0_2) := (za4 BK340.out 2).trans rfl
     have hfz5_0 := za6 BK340.out 0
     have hfz5_1 := za6 BK340.out 1
     have hfz5_2 := za6 BK340.out 2
     go_wp2
     go_meet
     case rel => exact ⟨_, (decide (x3_1 < 6)), (by first | rfl | (simp; done) | (simp [*]; done)), H', ⟨by have := HK1.out; first | omega | exact Nat.le_refl _⟩, ⟨by (with_reducible repeat (first | refine zaj ?_ _ | refine zah ?_ | refine zad ?_ _)); exact BK340.out⟩, ⟨by repeat (first | (with_reducible first | exact HB.out | apply za2 | apply za1 | apply za3 | refine zae ?_ GE340.out) | exact HB.out)⟩⟩
    ·
     rw [if_neg c4] at H
     have c4b0 : decide (x3_1 < (l0_2.length : Int)) = false := decide_eq_false c4
     clear c4
     (first | rw [c4b0] | (simp only [i64_w, i32_w]; rw [c4b0]) | rw [c4b1] | skip)
     have H' := za0.mk H
     clear H
     have hcz6_0 : wr.cell? ⟨gb340, 0, none⟩ = some (.int .u8 a0_0) := (za4 BK340.out 0).trans rfl
     have hcz6_1 : wr.cell? ⟨gb340, 1, none⟩ = some (.int .u8 a0_1) := (za4 BK340.out 1).trans rfl
     have hcz6_2 : wr.cell? ⟨gb340, 2, none⟩ = some (.slice A0_2 l0_2.length c0_2) := (za4 BK340.out 2).trans rfl
     have hfz6_0 := za6 BK340.out 0
     have hfz6_1 := za6 BK340.out 1
     have hfz6_2 := za6 BK340.out 2
     go_wp2
     go_meet
     case rel => exact ⟨_, (false), (by first | rfl | (simp; done) | (simp [*]; done)), H', ⟨by have := HK1.out; first | omega | exact Nat.le_refl _⟩, ⟨by (with_reducible repeat (first | refine zaj ?_ _ | refine zah ?_ | refine zad ?_ _)); exact BK340.out⟩, ⟨by repeat (first | (with_reducible first | exact HB.out | apply za2 | apply za1 | apply za3 | refine zae ?_ GE340.out) | exact HB.out)⟩⟩
   case rest =>
    clear HC3
    try clear p2
    try clear c3
    try clear c4
    try clear c4b0
    try clear hcz5_0
    try clear hcz5_1
    try clear hcz5_2
    try clear hcz6_0
    try clear hcz6_1
    try clear hcz6_2
    try clear hfz5_0
    try clear hfz5_1
    try clear hfz5_2
    try clear hfz6_0
    try clear hfz6_1
    try clear hfz6_2
    try clear p2
    obtain ⟨kq, x12_2, rfl, HA, HJ2, BK340, HB⟩ := hcut
    cases kq with
    | zero => exact absurd HA.out (by simp [redpencillaw15_right.j1])
    | succ kj2 =>
     have H := HA.out
     clear HA
     simp only [redpencillaw15_right.j1] at H
     by_cases c7 : x12_2 = true
     ·
      subst c7
      have H1 : (if 0 ≤ x3_1 then (if x3_1 < (l0_2.length : Int) then ((redpencilref14_IsRune.f (rd l0_2 x3_1)).bind fun t342 => (if t342 = true then (redpencillaw15_right.l0 kj2 (wrap64 (x3_1 + 1)) a0_0 a0_1 l0_2) else (some false))) else (none)) else (none)) = some r := by rw [if_pos rfl] at H; exact H
      clear H
      have H := H1
      clear H1
      by_cases c8 : 0 ≤ x3_1
      ·
       rw [if_pos c8] at H
       have c8b0 : decide (0 ≤ x3_1) = true := decide_eq_true c8
       clear c8
       by_cases c9 : x3_1 < (l0_2.length : Int)
       ·
        rw [if_pos c9] at H
        have c9b0 : decide (x3_1 < (l0_2.length : Int)) = true := decide_eq_true c9
        clear c9
        replace H := Option.bind_eq_some_iff.mp H
        obtain ⟨t342, A100, H⟩ := H
        replace H : (if t342 = true then (redpencillaw15_right.l0 kj2 (wrap64 (x3_1 + 1)) a0_0 a0_1 l0_2) else (some false)) = some r := H
        have A10 := za0.mk A100
        clear A100
        by_cases c11 : t342 = true
        ·
         subst c11
         have H1 : (redpencillaw15_right.l0 kj2 (wrap64 (x3_1 + 1)) a0_0 a0_1 l0_2) = some r := by rw [if_pos rfl] at H; exact H
         clear H
         have H := H1
         clear H1
         have H' := za0.mk H
         clear H
         have hcz12_0 : wc.cell? ⟨gb340, 0, none⟩ = some (.int .u8 a0_0) := (za4 BK340.out 0).trans rfl
         have hcz12_1 : wc.cell? ⟨gb340, 1, none⟩ = some (.int .u8 a0_1) := (za4 BK340.out 1).trans rfl
         have hcz12_2 : wc.cell? ⟨gb340, 2, none⟩ = some (.slice A0_2 l0_2.length c0_2) := (za4 BK340.out 2).trans rfl
         have hfz12_0 := za6 BK340.out 0
         have hfz12_1 := za6 BK340.out 1
         have hfz12_2 := za6 BK340.out 2
         have p341 : 0 ≤ (x3_1 : Int) := of_decide_eq_true (by first | (with_reducible assumption) | assumption)
         have q341 : x3_1 < (l0_2.length : Int) := of_decide_eq_true (by first | (with_reducible assumption) | assumption)
         obtain ⟨ad341, e341, hx341_0⟩ := Kd.at_int HR0_2.out x3_1 p341 q341
         cases e341
         replace hx341_0 := (HB.out.cell (World.block_lt_of_cell? w _ hx341_0)).trans hx341_0
         replace p341 := eq_true p341
         replace q341 := eq_true q341
         go_wp2_with (first | ((with_reducible refine zaf (f := 31) rfl ?_); refine zar (some 20) rfl rfl Tryz.func31 (by kernel_rfl) rfl #[.int .i32 (rd l0_2 x3_1)] rfl (by (try simp only [List.map_toArray, List.map_cons, List.map_nil]); first | done | rfl | (simp only [List.length_drop, List.length_take]; rfl)) ?_; (with_reducible refine (redpencilref14_IsRune.calls (rd l0_2 x3_1) true _ A10.out).mono ?_); rintro e w' ⟨rfl, ⟨nd, rfl⟩⟩; refine ⟨_, rfl, ?_⟩))
         go_roundg kj2
         case measure => have := HK1.out; have := HJ2.out; omega
         case rel => exact ⟨(wrap64 (x3_1 + 1)), (by first | rfl | (simp; done) | (simp [*]; done)), H', ⟨by have := HK1.out; have := HJ2.out; omega⟩, ⟨by (with_reducible repeat (first | refine zaj ?_ _ | refine zah ?_ | refine zad ?_ _)); exact BK340.out⟩, ⟨by repeat (first | (with_reducible first | exact HB.out | apply za2 | apply za1 | apply za3 | refine zae ?_ GE340.out) | exact HB.out)⟩⟩
        ·
         replace c11 := Bool.eq_false_iff.mpr c11
         subst c11
         have H1 : (some false) = some r := by rw [if_neg (show ¬ (false = true) by decide)] at H; exact H
         clear H
         have H := H1
         clear H1
         obtain rfl := Option.some.inj H
         have hcz13_0 : wc.cell? ⟨gb340, 0, none⟩ = some (.int .u8 a0_0) := (za4 BK340.out 0).trans rfl
         have hcz13_1 : wc.cell? ⟨gb340, 1, none⟩ = some (.int .u8 a0_1) := (za4 BK340.out 1).trans rfl
         have hcz13_2 : wc.cell? ⟨gb340, 2, none⟩ = some (.slice A0_2 l0_2.length c0_2) := (za4 BK340.out 2).trans rfl
         have hfz13_0 := za6 BK340.out 0
         have hfz13_1 := za6 BK340.out 1
         have hfz13_2 := za6 BK340.out 2
         have p341 : 0 ≤ (x3_1 : Int) := of_decide_eq_true (by first | (with_reducible assumption) | assumption)
         have q341 : x3_1 < (l0_2.length : Int) := of_decide_eq_true (by first | (with_reducible assumption) | assumption)
         obtain ⟨ad341, e341, hx341_0⟩ := Kd.at_int HR0_2.out x3_1 p341 q341
         cases e341
         replace hx341_0 := (HB.out.cell (World.block_lt_of_cell? w _ hx341_0)).trans hx341_0
         replace p341 := eq_true p341
         replace q341 := eq_true q341
         go_wp2_with (first | ((with_reducible refine zaf (f := 31) rfl ?_); refine zar (some 20) rfl rfl Tryz.func31 (by kernel_rfl) rfl #[.int .i32 (rd l0_2 x3_1)] rfl (by (try simp only [List.map_toArray, List.map_cons, List.map_nil]); first | done | rfl | (simp only [List.length_drop, List.length_take]; rfl)) ?_; (with_reducible refine (redpencilref14_IsRune.calls (rd l0_2 x3_1) false _ A10.out).mono ?_); rintro e w' ⟨rfl, ⟨nd, rfl⟩⟩; refine ⟨_, rfl, ?_⟩))
         go_ret
         exact ⟨by first | rfl | (simp [zac, zab] <;> rfl) | (simp [*, zac, zab] <;> rfl), by repeat (first | (with_reducible first | exact HB.out | apply za2 | apply za1 | apply za3 | refine zae ?_ GE340.out) | exact HB.out)⟩
       ·
        rw [if_neg c9] at H
        exact absurd H (by simp)
      ·
       rw [if_neg c8] at H
       exact absurd H (by simp)
     ·
      replace c7 := Bool.eq_false_iff.mpr c7
      subst c7
      have H1 : (some (decide ((l0_2.length : Int) ≤ 5))) = some r := by rw [if_neg (show ¬ (false = true) by decide)] at H; exact H
      clear H
      have H := H1
      clear H1
      obtain rfl := Option.some.inj H
      have hcz14_0 : wc.cell? ⟨gb340, 0, none⟩ = some (.int .u8 a0_0) := (za4 BK340.out 0).trans rfl
      have hcz14_1 : wc.cell? ⟨gb340, 1, none⟩ = some (.int .u8 a0_1) := (za4 BK340.out 1).trans rfl
      have hcz14_2 : wc.cell? ⟨gb340, 2, none⟩ = some (.slice A0_2 l0_2.length c0_2) := (za4 BK340.out 2).trans rfl
      have hfz14_0 := za6 BK340.out 0
      have hfz14_1 := za6 BK340.out 1
      have hfz14_2 := za6 BK340.out 2
      go_wp2
      go_ret
      exact ⟨by first | rfl | (simp [zac, zab] <;> rfl) | (simp [*, zac, zab] <;> rfl), by repeat (first | (with_reducible first | exact HB.out | apply za2 | apply za1 | apply za3 | refine zae ?_ GE340.out) | exact HB.out)⟩
end
end Go.Proofs.YtmbndijbpgobeaaGreat.PWalk
end
section
namespace Go.Proofs.YtmbndijbpgobeaaGreat.PWalk
open Go.RowKit Go.Proofs.YtmbndijbpgobeaaGreatW.PrintWords Go.Proofs.YtmbndijbpgobeaaGreatW.PrintLast Go.Proofs.YtmbndijbpgobeaaGreatW.PrintMore
set_option linter.unusedVariables false
set_option linter.unusedSimpArgs false
open Go.Shelf
attribute [local go_sem] Oper.semAt_some
section
def rightB (rs : List Int) : Bool := (rs.take 6).all runeOk && decide (rs.length ≤ 5)
theorem right_from (a b : Int) (rs : List Int) : ∀ (q k i : Nat), i + q = (rs.take 6).length → 2 * q + 2 ≤ k → redpencillaw15_right.l0 k (i : Int) a b rs = some (((rs.take 6).drop i).all runeOk && decide (rs.length ≤ 5)) := by
 intro q
 induction q with
 | zero =>
  intro k i hi hk
  obtain ⟨k, rfl⟩ : ∃ m, k = m + 2 := ⟨k - 2, by omega⟩
  rw [List.length_take] at hi
  have hd : (rs.take 6).drop i = [] := List.drop_eq_nil_of_le (by rw [List.length_take]; omega)
  rw [hd, List.all_nil, Bool.true_and]
  simp only [redpencillaw15_right.l0]
  have e : decide ((rs.length : Int) ≤ 5) = decide (rs.length ≤ 5) := by
   rw [Bool.eq_iff_iff, decide_eq_true_eq, decide_eq_true_eq]; omega
  by_cases h : (i : Int) < (rs.length : Int)
  ·
   rw [if_pos h, decide_eq_false (by omega)]
   simp only [redpencillaw15_right.j1]
   rw [if_neg (by decide), e]
  ·
   rw [if_neg h]
   simp only [redpencillaw15_right.j1]
   rw [if_neg (by decide), e]
 | succ q ih =>
  intro k i hi hk
  obtain ⟨k, rfl⟩ : ∃ m, k = m + 2 := ⟨k - 2, by omega⟩
  have hi2 := hi
  rw [List.length_take] at hi2
  have hlt : i < rs.length := by omega
  simp only [redpencillaw15_right.l0]
  rw [if_pos (by omega), decide_eq_true (by omega)]
  simp only [redpencillaw15_right.j1]
  rw [if_pos trivial, if_pos (by omega), if_pos (by omega), rdI hlt, jrune_ok, Option.bind_some, show wrap64 ((i : Int) + 1) = ((i + 1 : Nat) : Int) by unfold wrap64; omega, ih k (i + 1) (by omega) (by omega)]
  have hlt6 : i < (rs.take 6).length := by omega
  rw [List.drop_eq_getElem_cons hlt6, List.all_cons, List.getElem_take]
  cases runeOk rs[i] <;> simp
theorem right_is (a b : Int) (rs : List Int) : redpencillaw15_right.f 100 a b rs = some (rightB rs) :=
 right_from a b rs (rs.take 6).length 100 0 (Nat.zero_add _) (by rw [List.length_take]; omega)
theorem right_ok {rs : List Int} (h : rightB rs = true) : rs.length ≤ 5 ∧ ∀ r ∈ rs, runeOk r = true := by
 unfold rightB at h
 rw [Bool.and_eq_true, decide_eq_true_eq, List.all_eq_true] at h
 rw [List.take_of_length_le (by omega)] at h
 exact ⟨h.2, h.1⟩
theorem mod_nat {x : Int} {nv : Nat} (hx : 0 ≤ x) : ∃ q : Nat, x % ((nv : Int) + 1) = (q : Int) ∧ q ≤ nv := by
 have h1 := Int.emod_nonneg x (show ((nv : Int) + 1) ≠ 0 by omega)
 have h2 := Int.emod_lt_of_pos x (show (0 : Int) < (nv : Int) + 1 by omega)
 exact ⟨(x % ((nv : Int) + 1)).toNat, by omega, by omega⟩
theorem mod_nat2 {y : Int} {nv a : Nat} (hy : 0 ≤ y) (ha : a ≤ nv) : ∃ q : Nat, y % ((nv : Int) - (a : Int) + 1) = (q : Int) ∧ a + q ≤ nv := by
 have h1 := Int.emod_nonneg y (show ((nv : Int) - (a : Int) + 1) ≠ 0 by omega)
 have h2 := Int.emod_lt_of_pos y (show (0 : Int) < (nv : Int) - (a : Int) + 1 by omega)
 exact ⟨(y % ((nv : Int) - (a : Int) + 1)).toNat, by omega, by omega⟩
set_option maxHeartbeats 8000000 in
set_option maxRecDepth 100000 in
theorem EditHolds.walk (A0 : Option Addr) (c0 : Nat) (l : List Node) (w : World) (hr0 : Kd.C k53 w A0 l.length l) (hc0 : l.length ≤ c0) (hi0 : ∀ x ∈ l, runeIn x.f3)
  (x1 y1 : Int) (hx1 : 0 ≤ x1 ∧ x1 ≤ 255) (hy1 : 0 ≤ y1 ∧ y1 ≤ 255) (A1 : Option Addr) (c1 : Nat) (rs1 : List Int) (hr1 : Kd.C (Kd.int .i32) w A1 rs1.length rs1) (hc1 : rs1.length ≤ c1)
  (x2 y2 : Int) (hx2 : 0 ≤ x2 ∧ x2 ≤ 255) (hy2 : 0 ≤ y2 ∧ y2 ≤ 255) (A2 : Option Addr) (c2 : Nat) (rs2 : List Int) (hr2 : Kd.C (Kd.int .i32) w A2 rs2.length rs2) (hc2 : rs2.length ≤ c2) :
  Calls Tryz.prog 9 #[.slice A0 l.length c0, .agg #[.int .u8 x1, .int .u8 y1, .slice A1 rs1.length c1], .agg #[.int .u8 x2, .int .u8 y2, .slice A2 rs2.length c2]] w fun e w' => e = .returned (.bool true) ∧ Below w.heap.size w w' := by
 obtain ⟨n, Hn⟩ : ∃ n, za0 (l.length = n) := ⟨_, ⟨rfl⟩⟩
 obtain ⟨m1, Hm1⟩ : ∃ n, za0 (rs1.length = n) := ⟨_, ⟨rfl⟩⟩
 obtain ⟨m2, Hm2⟩ : ∃ n, za0 (rs2.length = n) := ⟨_, ⟨rfl⟩⟩
 have HML : za0 (n ≤ 1000000000 ∧ m1 ≤ 1000000000 ∧ m2 ≤ 1000000000 → True) := ⟨fun _ => trivial⟩
 have HR := za0.mk hr0
 have HC := za0.mk hc0
 have HR1 := za0.mk hr1
 have HC1 := za0.mk hc1
 have HR2 := za0.mk hr2
 have HC2 := za0.mk hc2
 have HXY := za0.mk (And.intro hx1 (And.intro hy1 (And.intro hx2 hy2)))
 obtain ⟨ga, Hga⟩ : ∃ g, za0 (w.heap.size = g) := ⟨_, ⟨rfl⟩⟩
 have hb0 := za2 (Below.refl _ w) (actO x1 y1 A1 m1 c1)
 have HA := za0.mk (za7 (zal w (actO x1 y1 A1 m1 c1)) (za2 (Below.refl _ (w.alloc (actO x1 y1 A1 m1 c1))) (actO x2 y2 A2 m2 c2)))
 have HA2 := za0.mk (zal (w.alloc (actO x1 y1 A1 m1 c1)) (actO x2 y2 A2 m2 c2))
 have HB0 := za0.mk (za5 hb0 (za2 (Below.refl _ (w.alloc (actO x1 y1 A1 m1 c1))) (actO x2 y2 A2 m2 c2)))
 rw [Hn.out, Hm1.out, Hm2.out]
 have hu := Tryz.underlying53
 have hu2 := Tryz.underlying25
 clear hr0 hc0 hi0 hx1 hy1 hr1 hc1 hx2 hy2 hr2 hc2 hb0 HML
 go_enter Tryz.func9, Tryz.ntmps9
 go_upto_region 1 with (fail)
 rw [Hga.out] at HA ⊢
 rw [show (w.alloc (actO x1 y1 A1 m1 c1)).heap.size = ga + 1 by rw [World.size_alloc, Hga.out]] at HA2
 generalize (w.alloc (actO x1 y1 A1 m1 c1)).alloc (actO x2 y2 A2 m2 c2) = V0 at *
 obtain ⟨b1, Hb1⟩ : ∃ b, za0 (wellB l = b) := ⟨_, ⟨rfl⟩⟩
 obtain ⟨q1, Hq1⟩ : ∃ b, za0 (rightB rs1 = b) := ⟨_, ⟨rfl⟩⟩
 obtain ⟨q2, Hq2⟩ : ∃ b, za0 (rightB rs2 = b) := ⟨_, ⟨rfl⟩⟩
 obtain ⟨late, Hla⟩ : ∃ t, za0 ((if zak l = true then lastOf l else 0) = t) := ⟨_, ⟨rfl⟩⟩
 by_cases h30 : n ≤ 30
 rotate_left
 ·
  have p1 : (n : Int) > 30 := by omega
  clear h30
  go_wp2_with fail
  refine (known15_call _).mono ?_
  rintro e VK ⟨rfl, hd⟩
  have HB := za0.mk (za5 HB0.out hd)
  clear hd
  go_wp2
  go_ret
  exact ⟨rfl, HB.out⟩
 have HN : za0 (n ≤ 30) := ⟨h30⟩
 have p1 : ¬ (n : Int) > 30 := by omega
 clear h30
 have hw := redpencilref14_Well.calls 100 A0 c0 l b1 V0 (Kd.C_below HR.out HB0.out) HC.out (by have h1 := HN.out; have h2 := Hn.out; rw [jwell_is (by omega) (by omega), Hb1.out])
 rw [Hn.out] at hw
 have HW := za0.mk hw
 clear hw
 go_wp2_with fail
 refine HW.out.mono ?_
 rintro e V1 ⟨rfl, hb⟩
 have HA := za0.mk (za7 HA.out hb)
 have HA2 := za0.mk (za7 HA2.out hb)
 have HB0 := za0.mk (za5 HB0.out hb)
 clear hb
 clear HW p1
 cases b1 with
 | false =>
  go_wp2_with fail
  refine (known15_call _).mono ?_
  rintro e VK ⟨rfl, hd⟩
  have HB := za0.mk (za5 HB0.out hd)
  clear hd
  go_wp2
  go_ret
  exact ⟨rfl, HB.out⟩
 | true =>
 have hw := redpencillaw15_right.calls 100 x1 y1 A1 c1 rs1 q1 V1 (Kd.C_below HR1.out HB0.out) HC1.out (by rw [right_is, Hq1.out])
 rw [Hm1.out] at hw
 have HW := za0.mk hw
 clear hw
 obtain ⟨k0, k1, k2⟩ := act_cells HA.out
 go_wp2_with fail
 clear k0 k1 k2
 refine HW.out.mono ?_
 rintro e V2 ⟨rfl, hb⟩
 have HA := za0.mk (za7 HA.out hb)
 have HA2 := za0.mk (za7 HA2.out hb)
 have HB0 := za0.mk (za5 HB0.out hb)
 clear hb
 clear HW
 cases q1 with
 | false =>
  go_wp2_with fail
  refine (known15_call _).mono ?_
  rintro e VK ⟨rfl, hd⟩
  have HB := za0.mk (za5 HB0.out hd)
  clear hd
  go_wp2
  go_ret
  exact ⟨rfl, HB.out⟩
 | true =>
 have hw := redpencillaw15_right.calls 100 x2 y2 A2 c2 rs2 q2 V2 (Kd.C_below HR2.out HB0.out) HC2.out (by rw [right_is, Hq2.out])
 rw [Hm2.out] at hw
 have HW := za0.mk hw
 clear hw
 obtain ⟨k0, k1, k2⟩ := act_cells HA2.out
 go_wp2_with fail
 clear k0 k1 k2
 refine HW.out.mono ?_
 rintro e V3 ⟨rfl, hb⟩
 have HA := za0.mk (za7 HA.out hb)
 have HA2 := za0.mk (za7 HA2.out hb)
 have HB0 := za0.mk (za5 HB0.out hb)
 clear hb
 clear HW
 cases q2 with
 | false =>
  go_wp2_with fail
  refine (known15_call _).mono ?_
  rintro e VK ⟨rfl, hd⟩
  have HB := za0.mk (za5 HB0.out hd)
  clear hd
  go_wp2
  go_ret
  exact ⟨rfl, HB.out⟩
 | true =>
 have hw := redpencilref15_Latest.calls 100 A0 c0 l late V3 (Kd.C_below HR.out HB0.out) HC.out (by have h1 := HN.out; have h2 := Hn.out; rw [jlatest_is (by omega) (by omega), Hla.out])
 rw [Hn.out] at hw
 have HW := za0.mk hw
 clear hw
 go_wp2_with fail
 refine HW.out.mono ?_
 rintro e V4 ⟨rfl, hb⟩
 have HA := za0.mk (za7 HA.out hb)
 have HA2 := za0.mk (za7 HA2.out hb)
 have HB0 := za0.mk (za5 HB0.out hb)
 clear hb
 clear HW
 have HS : za0 (zak l = true) := ⟨well_store (List.isEmpty_iff.1 Hb1.out)⟩
 rw [if_pos HS.out] at Hla
 by_cases hlt : late > 4611686018427387884
 ·
  go_wp2_with fail
  refine (known15_call _).mono ?_
  rintro e VK ⟨rfl, hd⟩
  have HB := za0.mk (za5 HB0.out hd)
  clear hd
  go_wp2
  go_ret
  exact ⟨rfl, HB.out⟩
 have HLT : za0 (late ≤ 4611686018427387884) := ⟨by omega⟩
 go_wp2_with fail
 clear hlt
 have HRN : za0 (Kd.C k53 V4 A0 n l) := ⟨by have := Kd.C_below HR.out HB0.out; rwa [Hn.out] at this⟩
 go_loopw [7] (fun i wr => ∃ k : Nat, i = .int .i64 k ∧ k ≤ n ∧ za0 (∀ (j : Nat) (z : Node), j < k → l[j]? = some z → ¬ (60 ≤ z.f0.f0 ∧ z.f0.f0 ≤ 61)) ∧ za0 (Below V4.heap.size V4 wr)) (fun i _ => n - (intOf i).toNat)
 case atStart => exact ⟨0, rfl, Nat.zero_le _, ⟨fun j r h => absurd h (Nat.not_lt_zero _)⟩, ⟨Below.refl _ _⟩⟩
 case round =>
  obtain ⟨k, rfl, hk, HNO, HVB⟩ := hrel
  by_cases hlt : k < n
  ·
   obtain ⟨z, Hz⟩ : ∃ z, za0 (l[k]? = some z) := ⟨_, ⟨List.getElem?_eq_getElem (by rw [Hn.out]; exact hlt)⟩⟩
   obtain ⟨ad, e, y0, y1', y2', y3, y4, y5⟩ := node_at HRN.out HVB.out k z Hz.out
   subst e
   have hn := HN.out
   by_cases g1 : z.f0.f0 ≥ 60
   ·
    by_cases g2 : z.f0.f0 ≤ 61
    ·
     go_wp2_with fail
     refine (known15_call _).mono ?_
     rintro e VK ⟨rfl, hd⟩
     have HB := za0.mk (za5 HB0.out (za5 HVB.out hd))
     clear hd
     go_wp2
     go_ret
     exact ⟨rfl, HB.out⟩
    ·
     have HNO : za0 (∀ (j : Nat) (z : Node), j < k + 1 → l[j]? = some z → ¬ (60 ≤ z.f0.f0 ∧ z.f0.f0 ≤ 61)) := ⟨fun j u hj hu h => by
      rcases Nat.lt_succ_iff_lt_or_eq.1 hj with h' | rfl
      ·
       exact HNO.out j u h' hu h
      ·
       rw [Hz.out] at hu; cases hu; exact g2 h.2⟩
     go_wp2
     go_roundw
     case rel => exact ⟨k + 1, by go_num, by omega, HNO, HVB⟩
     case measure => simp [intOf]; omega
   ·
    have HNO : za0 (∀ (j : Nat) (z : Node), j < k + 1 → l[j]? = some z → ¬ (60 ≤ z.f0.f0 ∧ z.f0.f0 ≤ 61)) := ⟨fun j u hj hu h => by
     rcases Nat.lt_succ_iff_lt_or_eq.1 hj with h' | rfl
     ·
      exact HNO.out j u h' hu h
     ·
      rw [Hz.out] at hu; cases hu; exact g1 h.1⟩
    go_wp2
    go_roundw
    case rel => exact ⟨k + 1, by go_num, by omega, HNO, HVB⟩
    case measure => simp [intOf]; omega
  obtain rfl : k = n := by omega
  have HALL : za0 (∀ z ∈ l, ¬ (60 ≤ z.f0.f0 ∧ z.f0.f0 ≤ 61)) := ⟨fun z hz => by
   obtain ⟨j, hj⟩ := List.getElem?_of_mem hz
   exact HNO.out j z (by rw [← Hn.out]; exact (List.getElem?_eq_some_iff.1 hj).1) hj⟩
  clear HNO hlt hk
  obtain ⟨V5, rfl⟩ : ∃ W0, W0 = wr := ⟨_, rfl⟩
  have HA := za0.mk (za7 HA.out HVB.out)
  have HA2 := za0.mk (za7 HA2.out HVB.out)
  have HB0 := za0.mk (za5 HB0.out HVB.out)
  have HRN := za0.mk (Kd.C_below HRN.out HVB.out)
  clear HVB
  obtain ⟨nv, Hnv⟩ : ∃ q, za0 ((runesOf l).length = q) := ⟨_, ⟨rfl⟩⟩
  have HVL : za0 ((visOf l).length = nv) := ⟨by rw [← Hnv.out]; unfold runesOf; rw [List.length_map]⟩
  obtain ⟨a1, e1, f1⟩ := mod_nat (nv := nv) HXY.out.1.1
  obtain ⟨b1', e2, f2⟩ := mod_nat2 HXY.out.2.1.1 f1
  obtain ⟨a2, e3, f3⟩ := mod_nat (nv := nv) HXY.out.2.2.1.1
  obtain ⟨b2', e4, f4⟩ := mod_nat2 HXY.out.2.2.2.1 f3
  have hq1 := right_ok Hq1.out
  have hq2 := right_ok Hq2.out
  have HE1 : za0 (EdOk l ⟨60, 1⟩ a1 b1' rs1) := ⟨new_edit Hb1.out (by decide) (by rw [HVL.out]; exact f2) hq1.2 hq1.1 (by rw [Hla.out]; exact HLT.out) fun z hz h => HALL.out z hz (by omega)⟩
  have HE2 : za0 (EdOk l ⟨61, 1⟩ a2 b2' rs2) := ⟨new_edit Hb1.out (by decide) (by rw [HVL.out]; exact f4) hq2.2 hq2.1 (by rw [Hla.out]; exact HLT.out) fun z hz h => HALL.out z hz (by omega)⟩
  obtain ⟨X, HX⟩ : ∃ X, za0 (joinJ l (deltaE l ⟨60, 1⟩ a1 b1' rs1) = X) := ⟨_, ⟨rfl⟩⟩
  obtain ⟨Y, HY⟩ : ∃ X, za0 (joinJ l (deltaE l ⟨61, 1⟩ a2 b2' rs2) = X) := ⟨_, ⟨rfl⟩⟩
  obtain ⟨Z, HZ⟩ : ∃ Q, za0 (joinJ X Y = Q) := ⟨_, ⟨rfl⟩⟩
  have hno1 : ∀ z ∈ l, z.f0.f0 ≠ (⟨60, 1⟩ : Dot).f0 := fun z hz h => HALL.out z hz (by have h : z.f0.f0 = 60 := h; omega)
  have hno2 : ∀ z ∈ l, z.f0.f0 ≠ (⟨61, 1⟩ : Dot).f0 := fun z hz h => HALL.out z hz (by have h : z.f0.f0 = 61 := h; omega)
  have hne : (⟨60, 1⟩ : Dot).f0 ≠ (⟨61, 1⟩ : Dot).f0 := by decide
  have HAP : za0 (applyR X Y = (Z, runesOf Z, 0)) := ⟨by have := two_apply HE1.out HE2.out hno1 hno2 hne; rwa [HX.out, HY.out, HZ.out] at this⟩
  have HCM : za0 (joinJ Y X = Z) := ⟨by have := two_comm HE1.out HE2.out hno1 hno2 hne; rw [HX.out, HY.out, HZ.out] at this; exact this.symm⟩
  have HAP2 : za0 (applyR Y X = (Z, runesOf Z, 0)) := ⟨by have := two_apply HE2.out HE1.out hno2 hno1 hne.symm; rwa [HX.out, HY.out, HCM.out] at this⟩
  have HZW : za0 (wellB Z = true) := ⟨by have := two_well HE1.out HE2.out hno1 hno2 hne; rwa [HX.out, HY.out, HZ.out] at this⟩
  have HSEEN : za0 (∀ z ∈ Z, 60 ≤ z.f0.f0 → z.f0.f0 ≤ 61 → z.f3 ≠ 0) := ⟨fun z hz g1 g2 => two_seen HE1.out HE2.out hno1 hno2 hne (by rw [HX.out, HY.out, HZ.out]; exact hz) (by show z.f0.f0 = 60 ∨ z.f0.f0 = 61; omega)⟩
  have HXL : za0 (X.length ≤ 35) := ⟨by have h1 := HE1.out.after_le; rw [HX.out] at h1; have h2 := HN.out; have h3 := Hn.out; have h4 := hq1.1; omega⟩
  have HYL : za0 (Y.length ≤ 35) := ⟨by have h1 := HE2.out.after_le; rw [HY.out] at h1; have h2 := HN.out; have h3 := Hn.out; have h4 := hq2.1; omega⟩
  have HZL : za0 (Z.length ≤ 70) := ⟨by rw [← HZ.out]; have := joinJ_le Y X; have := HXL.out; have := HYL.out; omega⟩
  have HZR : za0 ((runesOf Z).length ≤ 70) := ⟨by have h1 := runesOf_len (well_store (List.isEmpty_iff.1 HZW.out)); have := HZL.out; omega⟩
  have HCE1 : za0 (∀ W, Below V5.heap.size V5 W → Calls Tryz.prog 34 #[.slice A0 k c0, .int .i64 60, .int .i64 1, .agg #[.int .u8 x1, .int .u8 y1, .slice A1 m1 c1]] W fun e w' => ∃ v0_ v1_ : Value, e = .returned (.tuple #[v0_, v1_, .int .i64 (1 + (m1 : Int)), .bool true]) ∧ RN w' W.heap.size v0_ X ∧ RI w' W.heap.size v1_ (runesOf X) ∧ Below W.heap.size W w') := ⟨fun W hb => by
   have h := edits_call A0 c0 l ⟨60, 1⟩ x1 y1 A1 c1 rs1 a1 b1' W (by rw [Hn.out]; exact Kd.C_below HRN.out hb) HC.out (Kd.C_below HR1.out (za5 HB0.out hb)) HC1.out HXY.out.1 HXY.out.2.1 (by have := HN.out; have := Hn.out; omega) hq1.1 (by rw [Hnv.out]; exact e1) (by rw [Hnv.out]; exact e2) HE1.out
   rw [HX.out] at h
   rwa [Hn.out, Hm1.out] at h⟩
  have HCE2 : za0 (∀ W, Below V5.heap.size V5 W → Calls Tryz.prog 34 #[.slice A0 k c0, .int .i64 61, .int .i64 1, .agg #[.int .u8 x2, .int .u8 y2, .slice A2 m2 c2]] W fun e w' => ∃ v0_ v1_ : Value, e = .returned (.tuple #[v0_, v1_, .int .i64 (1 + (m2 : Int)), .bool true]) ∧ RN w' W.heap.size v0_ Y ∧ RI w' W.heap.size v1_ (runesOf Y) ∧ Below W.heap.size W w') := ⟨fun W hb => by
   have h := edits_call A0 c0 l ⟨61, 1⟩ x2 y2 A2 c2 rs2 a2 b2' W (by rw [Hn.out]; exact Kd.C_below HRN.out hb) HC.out (Kd.C_below HR2.out (za5 HB0.out hb)) HC2.out HXY.out.2.2.1 HXY.out.2.2.2 (by have := HN.out; have := Hn.out; omega) hq2.1 (by rw [Hnv.out]; exact e3) (by rw [Hnv.out]; exact e4) HE2.out
   rw [HY.out] at h
   rwa [Hn.out, Hm2.out] at h⟩
  clear e1 e2 e3 e4 f1 f2 f3 f4 hq1 hq2 hno1 hno2 hne HALL HLT
  obtain ⟨k0, k1, k2⟩ := act_cells HA.out
  go_wp2_with fail
  clear k0 k1 k2
  refine (HCE1.out _ (Below.refl _ V5)).mono ?_
  rintro e V6 ⟨vx, vo, rfl, hrx, _, hb⟩
  obtain ⟨Ax, cx, rfl⟩ := RN.slice hrx
  obtain ⟨nx, Hnx⟩ : ∃ q, za0 (X.length = q) := ⟨_, ⟨rfl⟩⟩
  rw [Hnx.out] at hrx ⊢
  have HOX : za0 (nx ≤ cx ∧ Kd.C k53 V6 Ax nx X) := ⟨(RN.C hrx).2⟩
  have HVB := za0.mk hb
  have HA2 := za0.mk (za7 HA2.out hb)
  clear hrx hb HCE1
  obtain ⟨k0, k1, k2⟩ := act_cells HA2.out
  go_wp2_with fail
  clear k0 k1 k2
  refine (HCE2.out _ HVB.out).mono ?_
  rintro e V7 ⟨vy, vo2, rfl, hry, _, hb⟩
  obtain ⟨Ay, cy, rfl⟩ := RN.slice hry
  obtain ⟨ny, Hny⟩ : ∃ q, za0 (Y.length = q) := ⟨_, ⟨rfl⟩⟩
  rw [Hny.out] at hry ⊢
  have HOY : za0 (ny ≤ cy ∧ Kd.C k53 V7 Ay ny Y) := ⟨(RN.C hry).2⟩
  have HOX : za0 (nx ≤ cx ∧ Kd.C k53 V7 Ax nx X) := ⟨HOX.out.1, Kd.C_below HOX.out.2 hb⟩
  have HVB := za0.mk (za5 HVB.out hb)
  clear hry hb HCE2
  have hap := edit_Apply.calls 1000 Ax cx X Ay cy Y Z (runesOf Z) 0 V7 (by rw [Hnx.out]; exact HOX.out.2) (by rw [Hnx.out]; exact HOX.out.1) (by rw [Hny.out]; exact HOY.out.2) (by rw [Hny.out]; exact HOY.out.1) (by have h1 := HXL.out; have h2 := HYL.out; rw [apply_is (by omega) (by omega) (by omega), HAP.out])
  rw [Hnx.out, Hny.out] at hap
  have HAPP := za0.mk hap
  clear hap
  go_wp2_with fail
  refine HAPP.out.mono ?_
  rintro e V8 ⟨vp, vl, rfl, hrp, hrl, hb⟩
  obtain ⟨Ap, cp, rfl⟩ := RN.slice hrp
  obtain ⟨Al, cl, rfl⟩ := Kd.R_slice hrl
  obtain ⟨nz, Hnz⟩ : ∃ q, za0 (Z.length = q) := ⟨_, ⟨rfl⟩⟩
  obtain ⟨tz, Htz⟩ : ∃ q, za0 (runesOf Z = q) := ⟨_, ⟨rfl⟩⟩
  obtain ⟨nt, Hnt⟩ : ∃ q, za0 (tz.length = q) := ⟨_, ⟨rfl⟩⟩
  rw [Htz.out] at hrl
  rw [Htz.out, Hnt.out, Hnz.out]
  rw [Hnt.out] at hrl
  rw [Hnz.out] at hrp
  have HOP : za0 (nz ≤ cp ∧ Kd.C k53 V8 Ap nz Z) := ⟨(RN.C hrp).2⟩
  have HOL : za0 (nt ≤ cl ∧ Kd.C (Kd.int .i32) V8 Al nt tz) := ⟨(RI.C hrl).2⟩
  have HOX : za0 (nx ≤ cx ∧ Kd.C k53 V8 Ax nx X) := ⟨HOX.out.1, Kd.C_below HOX.out.2 hb⟩
  have HOY : za0 (ny ≤ cy ∧ Kd.C k53 V8 Ay ny Y) := ⟨HOY.out.1, Kd.C_below HOY.out.2 hb⟩
  have HVB := za0.mk (za5 HVB.out hb)
  clear hrp hrl hb HAPP
  have hap := edit_Apply.calls 1000 Ay cy Y Ax cx X Z tz 0 V8 (by rw [Hny.out]; exact HOY.out.2) (by rw [Hny.out]; exact HOY.out.1) (by rw [Hnx.out]; exact HOX.out.2) (by rw [Hnx.out]; exact HOX.out.1) (by have h1 := HXL.out; have h2 := HYL.out; rw [apply_is (by omega) (by omega) (by omega), HAP2.out, Htz.out])
  rw [Hnx.out, Hny.out] at hap
  have HAPP := za0.mk hap
  clear hap
  go_wp2_with fail
  refine HAPP.out.mono ?_
  rintro e V9 ⟨vq, vm, rfl, hrq, hrm, hb⟩
  obtain ⟨Aq, cq, rfl⟩ := RN.slice hrq
  obtain ⟨Am, cm, rfl⟩ := Kd.R_slice hrm
  rw [Hnz.out] at hrq ⊢
  rw [Hnt.out] at hrm ⊢
  have HOQ : za0 (nz ≤ cq ∧ Kd.C k53 V9 Aq nz Z) := ⟨(RN.C hrq).2⟩
  have HOM : za0 (nt ≤ cm ∧ Kd.C (Kd.int .i32) V9 Am nt tz) := ⟨(RI.C hrm).2⟩
  have HOP : za0 (nz ≤ cp ∧ Kd.C k53 V9 Ap nz Z) := ⟨HOP.out.1, Kd.C_below HOP.out.2 hb⟩
  have HOL : za0 (nt ≤ cl ∧ Kd.C (Kd.int .i32) V9 Al nt tz) := ⟨HOL.out.1, Kd.C_below HOL.out.2 hb⟩
  have HVB := za0.mk (za5 HVB.out hb)
  clear hrq hrm hb HAPP HOX HOY
  have hs := redpencilref14_Same.calls 1000 Ap cp Z Aq cq Z true V9 (by rw [Hnz.out]; exact HOP.out.2) (by rw [Hnz.out]; exact HOP.out.1) (by rw [Hnz.out]; exact HOQ.out.2) (by rw [Hnz.out]; exact HOQ.out.1) (jsame_is Z (by have := HZL.out; omega) (by have := HZL.out; omega))
  rw [Hnz.out] at hs
  have HSA := za0.mk hs
  clear hs
  go_wp2_with fail
  refine HSA.out.mono ?_
  rintro e V10 ⟨rfl, hb⟩
  have HOP : za0 (nz ≤ cp ∧ Kd.C k53 V10 Ap nz Z) := ⟨HOP.out.1, Kd.C_below HOP.out.2 hb.below⟩
  have HOL : za0 (nt ≤ cl ∧ Kd.C (Kd.int .i32) V10 Al nt tz) := ⟨HOL.out.1, Kd.C_below HOL.out.2 hb.below⟩
  have HOM : za0 (nt ≤ cm ∧ Kd.C (Kd.int .i32) V10 Am nt tz) := ⟨HOM.out.1, Kd.C_below HOM.out.2 hb.below⟩
  have HVB := za0.mk (za5 HVB.out hb.below)
  clear hb HSA HOQ
  have hs := redpencilref15_Same.calls 1000 Al cl tz Am cm tz true V10 (by rw [Hnt.out]; exact HOL.out.2) (by rw [Hnt.out]; exact HOL.out.1) (by rw [Hnt.out]; exact HOM.out.2) (by rw [Hnt.out]; exact HOM.out.1) (jsameI_is tz (by rw [← Htz.out]; have := HZR.out; omega) (by rw [← Htz.out]; have := HZR.out; omega))
  rw [Hnt.out] at hs
  have HSA := za0.mk hs
  clear hs
  go_wp2_with fail
  refine HSA.out.mono ?_
  rintro e V11 ⟨rfl, hb⟩
  have HOP : za0 (nz ≤ cp ∧ Kd.C k53 V11 Ap nz Z) := ⟨HOP.out.1, Kd.C_below HOP.out.2 hb.below⟩
  have HVB := za0.mk (za5 HVB.out hb.below)
  clear hb HSA HOL HOM
  have hs := redpencilref14_Well.calls 1000 Ap cp Z true V11 (by rw [Hnz.out]; exact HOP.out.2) (by rw [Hnz.out]; exact HOP.out.1) (by have := HZL.out; rw [jwell_is (by omega) (by omega), HZW.out])
  rw [Hnz.out] at hs
  have HSA := za0.mk hs
  clear hs
  go_wp2_with fail
  refine HSA.out.mono ?_
  rintro e V12 ⟨rfl, hb⟩
  have HOP : za0 (nz ≤ cp ∧ Kd.C k53 V12 Ap nz Z) := ⟨HOP.out.1, Kd.C_below HOP.out.2 hb⟩
  have HVB := za0.mk (za5 HVB.out hb)
  clear hb HSA
  have HNZ : za0 (nz ≤ 70) := ⟨by rw [← Hnz.out]; exact HZL.out⟩
  go_wp2_with fail
  go_loopw [22] (fun i wr => ∃ j : Nat, i = .int .i64 j ∧ j ≤ nz ∧ za0 (Below V12.heap.size V12 wr)) (fun i _ => nz - (intOf i).toNat)
  case atStart => exact ⟨0, rfl, Nat.zero_le _, ⟨Below.refl _ _⟩⟩
  case round =>
   obtain ⟨j, rfl, hj, HVC⟩ := hrel
   by_cases hlt : j < nz
   ·
    obtain ⟨z, Hz⟩ : ∃ z, za0 (Z[j]? = some z) := ⟨_, ⟨List.getElem?_eq_getElem (by rw [Hnz.out]; exact hlt)⟩⟩
    have HSZ := za0.mk (HSEEN.out z (List.mem_of_getElem? Hz.out))
    obtain ⟨ad, e, y0, y1', y2', y3, y4, y5⟩ := node_at HOP.out.2 HVC.out j z Hz.out
    subst e
    have hnz := HNZ.out
    by_cases g1 : z.f0.f0 ≥ 60
    ·
     by_cases g2 : z.f0.f0 ≤ 61
     ·
      have g3 : (z.f3 == 0) = false := beq_eq_false_iff_ne.2 (HSZ.out g1 g2)
      go_wp2
      go_roundw
      case rel => exact ⟨j + 1, by go_num, by omega, HVC⟩
      case measure => simp [intOf]; omega
     ·
      go_wp2
      go_roundw
      case rel => exact ⟨j + 1, by go_num, by omega, HVC⟩
      case measure => simp [intOf]; omega
    ·
     go_wp2
     go_roundw
     case rel => exact ⟨j + 1, by go_num, by omega, HVC⟩
     case measure => simp [intOf]; omega
   obtain rfl : j = nz := by omega
   go_wp2_with fail
   refine (known15_call _).mono ?_
   rintro e VK ⟨rfl, hd⟩
   have HB := za0.mk (za5 HB0.out (za5 HVB.out (za5 HVC.out hd)))
   clear hd
   go_wp2
   go_ret
   exact ⟨rfl, HB.out⟩
end
end Go.Proofs.YtmbndijbpgobeaaGreat.PWalk
end
section
namespace Go.Proofs.YtmbndijbpgobeaaGreat.editHolds
open Go.ChangeShapes Go.WideShapes Go.ChangeAt Go.RowKit
open Go.ChangeMaps (open_string shut_string)
open Go.Proofs.YtmbndijbpgobeaaGreatW.PrintWords
set_option linter.unusedVariables false
section
theorem six_of {α : Type} {cs : List α} (h : cs.length = 6) : ∃ c0 c1 c2 c3 c4 c5, cs = [c0, c1, c2, c3, c4, c5] := by
 match cs, h with
 | [a, b, c, d, e, f], _ => exact ⟨a, b, c, d, e, f, rfl⟩
theorem open_node {H : Type} {enc : TypeId × Value → H} {W : World} {base : Nat} {sp : Nat → Bool} {held : Bool} {fuel : Nat} {cs : List Value} {x : DataW H × List MemPlace} (h : DataW.trod enc Tryz.prog W base sp held fuel 53 cs = some x) :
  ∃ n : PWalk.Node, cs = PWalk.nodeCells n ∧ PWalk.runeIn n.f3 := by
 have e37 : Tryz.prog.cellsOf 53 = 6 := by kernel_rfl
 have e35 : Tryz.prog.cellsOf 25 = 2 := by kernel_rfl
 have e3 : Tryz.prog.cellsOf 3 = 1 := by kernel_rfl
 have e21 : Tryz.prog.cellsOf 21 = 1 := by kernel_rfl
 obtain ⟨y0, y1, y2, y3, n, rfl, hl, h0, h1, h2, h3⟩ := Go.Joins.trod_struct4 Tryz.underlying53 h
 rw [e37] at hl
 obtain ⟨c0, c1, c2, c3, c4, c5, rfl⟩ := six_of hl
 simp only [e35, e3, e21, List.drop_zero, List.drop_succ_cons, List.take_succ_cons, List.take_zero] at h0 h1 h2 h3
 obtain ⟨_, _, _, _, _, g0, g1⟩ := trod_struct2 Tryz.underlying25 h0
 obtain ⟨_, _, _, _, _, g2, g3⟩ := trod_struct2 Tryz.underlying25 h1
 simp only [e3, List.drop_zero, List.drop_succ_cons, List.take_succ_cons, List.take_zero] at g0 g1 g2 g3
 obtain ⟨k0, i0, _, _⟩ := DataW.trod_int Tryz.underlying3 g0
 obtain ⟨k1, i1, _, _⟩ := DataW.trod_int Tryz.underlying3 g1
 obtain ⟨k2, i2, _, _⟩ := DataW.trod_int Tryz.underlying3 g2
 obtain ⟨k3, i3, _, _⟩ := DataW.trod_int Tryz.underlying3 g3
 obtain ⟨k4, i4, _, _⟩ := DataW.trod_int Tryz.underlying3 h2
 obtain ⟨k5, i5, _, hw⟩ := DataW.trod_int Tryz.underlying21 h3
 simp only [List.cons.injEq, and_true] at i0 i1 i2 i3 i4 i5
 subst i0 i1 i2 i3 i4 i5
 refine ⟨⟨⟨k0, k1⟩, ⟨k2, k3⟩, k4, k5⟩, rfl, ?_⟩
 have hw2 : -2147483648 ≤ k5 ∧ k5 ≤ 2147483647 := by simpa [Lit.wf, IntKind.min, IntKind.max, IntKind.signed, IntKind.bits] using hw
 exact ⟨by show _ ≤ k5; omega, by show k5 ≤ _; omega⟩
/-- A []api.Node that came in, nil or not. -/
theorem open_nodes {H : Type} {enc : TypeId × Value → H} {W : World} {A : Option Addr} {len cap : Nat} {x : DataW H × List MemPlace} {fuel : Nat} (h : DataW.trod enc Tryz.prog W 0 (fun _ => true) true fuel 23 [.slice A len cap] = some x) :
  ∃ xs : List PWalk.Node, xs.length = len ∧ Kd.C PWalk.k53 W A len xs ∧ len ≤ cap ∧ ∀ n ∈ xs, PWalk.runeIn n.f3 := by
 have e37 : Tryz.prog.cellsOf 53 = 6 := by kernel_rfl
 rcases Go.Deep.open_slice Tryz.underlying23 h with ⟨hcs, _⟩ | ⟨a, len', cap', m, n, D, Pl, hcs, _, hl, hm, hmm, _, hx⟩
 ·
  simp at hcs
  obtain ⟨rfl, rfl, rfl⟩ := hcs
  exact ⟨[], rfl, ⟨rfl, by omega, fun hp => absurd hp (by omega)⟩, Nat.le_refl _, fun n hn => by cases hn⟩
 ·
  simp at hcs
  obtain ⟨rfl, rfl, rfl⟩ := hcs
  simp only [if_true] at hmm
  subst hmm
  rw [e37] at hx
  haveI : Inhabited PWalk.Node := ⟨⟨⟨0, 0⟩, ⟨0, 0⟩, 0, 0⟩⟩
  obtain ⟨N, hN⟩ := Go.Deep.choose_lt (α := PWalk.Node) (n := len) (p := fun i nd => PWalk.runeIn nd.f3 ∧ ∀ j u, (PWalk.nodeCells nd)[j]? = some u → W.cell? (a.add (i * 6 + j)) = some u) (fun i hi => by
   obtain ⟨cs', h1, h2⟩ := hx i (by omega)
   obtain ⟨nd, rfl, hr⟩ := open_node h2
   refine ⟨nd, hr, fun j u hu => ?_⟩
   obtain ⟨_, hlen, hc⟩ := World.cells?_some h1
   have hj : j < 6 := (List.getElem?_eq_some_iff.1 hu).1
   rw [← Addr.add_add a (i * 6) j]
   rw [← hu]
   exact hc j (by simpa using hj))
  refine ⟨(List.range len).map N, by simp, ⟨by simp, Nat.le_trans hl hm, fun hp => ⟨a, rfl, fun i nd hi => ?_⟩⟩, hl, fun nd hnd => ?_⟩
  ·
   have hil : i < len := by simpa using (List.getElem?_eq_some_iff.1 hi).1
   have hnd : nd = N i := by simpa [hil] using hi.symm
   subst hnd
   refine ⟨PWalk.nodeCells (N i), rfl, PWalk.k53.K_of_M (PWalk.k53_mkM W 0 (fun _ => True) (N i)), fun j u hu => (hN i hil).2 j u hu⟩
  ·
   obtain ⟨i, hi, rfl⟩ := List.mem_map.1 hnd
   exact (hN i (by simpa using hi)).1
/-- A []rune that came in, nil or not. -/
theorem open_runes {H : Type} {enc : TypeId × Value → H} {W : World} {A : Option Addr} {len cap : Nat} {x : DataW H × List MemPlace} {fuel : Nat} (h : DataW.trod enc Tryz.prog W 0 (fun _ => true) true fuel 26 [.slice A len cap] = some x) :
  ∃ xs : List Int, xs.length = len ∧ Kd.C (Kd.int .i32) W A len xs ∧ len ≤ cap := by
 rcases Go.ChangeShapes.open_ints Tryz.underlying26 Tryz.underlying21 (by kernel_rfl) h with ⟨hcs, _⟩ | ⟨a, len', cap', zs, hcs, _, hl, hm, hz, _, hc, _⟩
 ·
  simp at hcs
  obtain ⟨rfl, rfl, rfl⟩ := hcs
  exact ⟨[], rfl, ⟨rfl, by omega, fun hp => absurd hp (by omega)⟩, Nat.le_refl _⟩
 ·
  simp at hcs
  obtain ⟨rfl, rfl, rfl⟩ := hcs
  simp only [if_true] at hz
  refine ⟨zs.take len, by rw [List.length_take]; omega, ⟨by rw [List.length_take]; omega, Nat.le_trans hl hm, fun hp => ⟨a, rfl, fun i r hi => ⟨[.int .i32 r], rfl, rfl, fun j u hu => ?_⟩⟩⟩, hl⟩
  have hj : j = 0 := by
   cases j with
   | zero => rfl
   | succ j => simp at hu
  subst hj
  simp at hu
  subst hu
  have hil : i < len := by
   have := (List.getElem?_eq_some_iff.1 hi).1
   rw [List.length_take] at this
   omega
  rw [List.getElem?_take_of_lt hil] at hi
  have hiz : i < zs.length := by omega
  have e : zs.getD i 0 = r := by rw [List.getD_eq_getElem?_getD, hi]; rfl
  rw [show a.add (i * (Kd.int .i32).sz + 0) = a.add i by simp [Kd.int, Kd.scalar], hc i hiz, e]
set_option maxRecDepth 100000 in
/-- An Act that came in by value: two bytes and a []rune. -/
theorem open_act {H : Type} {enc : TypeId × Value → H} {W : World} {r : Reach} {b0 : Nat} {v : Value} {d : DataW H} {p : List MemPlace} (hv : Value.okWide Tryz.prog W r b0 59 v) (h : DataW.Trod enc Tryz.prog W 0 (fun _ => true) true 59 v d p) :
  ∃ (x y : Int) (A : Option Addr) (c : Nat) (xs : List Int), v = .agg #[.int .u8 x, .int .u8 y, .slice A xs.length c] ∧ (0 ≤ x ∧ x ≤ 255) ∧ (0 ≤ y ∧ y ≤ 255) ∧ Kd.C (Kd.int .i32) W A xs.length xs ∧ xs.length ≤ c := by
 obtain ⟨v0, v1, v2, z0, z1, z2, n, rfl, _, _, h0, h1, h2⟩ := Go.Joins.open_agg3 Tryz.underlying59 (by kernel_rfl) (by kernel_rfl) hv h
 obtain ⟨k0, i0, _, w0⟩ := DataW.trod_int Tryz.underlying5 h0
 obtain ⟨k1, i1, _, w1⟩ := DataW.trod_int Tryz.underlying5 h1
 simp only [List.cons.injEq, and_true] at i0 i1
 subst i0 i1
 have g0 : 0 ≤ k0 ∧ k0 ≤ 255 := by simpa [Lit.wf, IntKind.min, IntKind.max, IntKind.signed, IntKind.bits] using w0
 have g1 : 0 ≤ k1 ∧ k1 ≤ 255 := by simpa [Lit.wf, IntKind.min, IntKind.max, IntKind.signed, IntKind.bits] using w1
 have hs : ∃ A len cap, v2 = .slice A len cap := by
  rcases Go.ChangeShapes.open_ints Tryz.underlying26 Tryz.underlying21 (by kernel_rfl) h2 with ⟨hcs, _⟩ | ⟨a, len', cap', zs, hcs, _⟩
  ·
   simp at hcs; exact ⟨_, _, _, hcs⟩
  ·
   simp at hcs; exact ⟨_, _, _, hcs⟩
 obtain ⟨A, len, cap, rfl⟩ := hs
 obtain ⟨xs, rfl, hr, hc⟩ := open_runes h2
 exact ⟨k0, k1, A, cap, xs, rfl, g0, g1, hr, hc⟩
theorem own : ownKnob Tryz.prog.godebug = none := by kernel_rfl
theorem laidOut : laidOutB Tryz.prog = true := by kernel_rfl
set_option maxRecDepth 100000 in
set_option maxHeartbeats 2000000 in
theorem lifted (os : Os) (started : os.Started) (H : Type) (enc : TypeId × Value → H) :
  ReturnsInHanded {} Tryz.checked os 9 .any (Rows.editHoldsSpec.pre6 enc Tryz.prog Tryz.f9 Rows.editHoldsRow.domain false) (Rows.editHoldsSpec.post enc Tryz.prog Tryz.f9 false true false false) := by
 refine returnsInHanded_of_change_sized (C := Tryz.checked) own started (by kernel_rfl) Tryz.func9
  (ChangeSpec.witness6 (enc := enc) (C := Tryz.checked) false ⟨#[], #[.slice none 0 0, .agg #[.int .u8 0, .int .u8 0, .slice none 0 0], .agg #[.int .u8 0, .int .u8 0, .slice none 0 0]], []⟩ 8 (by kernel_rfl) (by kernel_rfl) (by kernel_rfl) (by kernel_rfl)) ?_
 intro W base args ds gs before hval0 hW hcnd hsz0 _
 have hval : ∀ (j : Nat) t v, Tryz.f9.params[j]? = some t → args[j]? = some v → Value.okWide Tryz.prog W .any base t v := hval0
 have hW' := hW
 obtain ⟨p, q, hA0, hV, rfl, hfz, hnd⟩ := hW
 have hA : DataW.TrodAll enc Tryz.prog W 0 (fun _ => true) true Tryz.f9.params.toList args.toList ds p := hA0
 rw [Tryz.params9] at hA hval
 obtain ⟨v0, vs0, d0, ds0, p0, q0, hargs, rfl, rfl, h0, r0⟩ := trodAll_cons hA
 obtain ⟨v1, vs1, d1, ds1, p1, q1, rfl, rfl, rfl, h1, r1⟩ := trodAll_cons r0
 obtain ⟨v2, vs2, d2, ds2, p2, q2, rfl, rfl, rfl, h2, r2⟩ := trodAll_cons r1
 obtain ⟨rfl, rfl, rfl⟩ := trodAll_nil r2
 obtain rfl : args = #[v0, v1, v2] := by cases args; simp_all
 obtain ⟨rfl, rfl⟩ := trodVars_none hV
 obtain ⟨A0, len0, cap0, rfl⟩ := okWide_slice Tryz.underlying23 (hval 0 23 v0 rfl rfl)
 have k0 := h0
 have lt0 : ∀ x ∈ p0, x.block < W.heap.size := by obtain ⟨m, hm⟩ := k0; exact DataW.trod_lt m _ _ _ hm
 obtain ⟨f0, hf0⟩ := h0
 obtain ⟨xs0, rfl, hr0, hc0, hi0⟩ := open_nodes hf0
 have k1 := h1
 have lt1 : ∀ x ∈ p1, x.block < W.heap.size := by obtain ⟨m, hm⟩ := k1; exact DataW.trod_lt m _ _ _ hm
 obtain ⟨x1, y1, A1, cap1, xs1, rfl, gx1, gy1, hr1, hc1⟩ := open_act (hval 1 59 v1 rfl rfl) h1
 have k2 := h2
 have lt2 : ∀ x ∈ p2, x.block < W.heap.size := by obtain ⟨m, hm⟩ := k2; exact DataW.trod_lt m _ _ _ hm
 obtain ⟨x2, y2, A2, cap2, xs2, rfl, gx2, gy2, hr2, hc2⟩ := open_act (hval 2 59 v2 rfl rfl) h2
 clear hA0 hval0 hsz0
 refine (PWalk.EditHolds.walk A0 cap0 xs0 W hr0 hc0 hi0 x1 y1 gx1 gy1 A1 cap1 xs1 hr1 hc1 x2 y2 gx2 gy2 A2 cap2 xs2 hr2 hc2).mono fun e W' ⟨he, bel⟩ => ?_
 subst he
 exact ⟨_, rfl, _, _, _, [], _, [], hW', trodAll_mk1 (shut_bool Tryz.underlying4 _), (trodAll_cons_mk (Below.trod laidOut (by kernel_rfl) (of_decide_eq_true (by kernel_rfl)) k0 bel lt0) (trodAll_cons_mk (Below.trod laidOut (by kernel_rfl) (of_decide_eq_true (by kernel_rfl)) k1 bel lt1) (trodAll_cons_mk (Below.trod laidOut (by kernel_rfl) (of_decide_eq_true (by kernel_rfl)) k2 bel lt2) trodAll_mk0))), rfl, bel.frame _, fun h => by cases h⟩
theorem over : Rows.editHoldsRow.holds Tryz.pinned (OpenSpec.ofChange Rows.editHoldsSpec) :=
 OpenClaim.holds_of_wide 9 Tryz.f9 rfl rfl rfl rfl rfl rfl rfl ⟨rfl, rfl, rfl, rfl, rfl⟩ rfl rfl rfl rfl rfl (by kernel_rfl) Tryz.func9 (by kernel_rfl)
  (of_decide_eq_true (by kernel_rfl)) (by unfold Func.isWrapper; first | (rw [if_pos (by decide +kernel)]; kernel_rfl) | (rw [if_neg (by decide +kernel)]; exact ⟨rfl, rfl⟩))
  (fun os started H enc _ => lifted os started H enc)
theorem proved : Rows.EditHoldsSaid := over
#print axioms proved
end
end Go.Proofs.YtmbndijbpgobeaaGreat.editHolds
end
