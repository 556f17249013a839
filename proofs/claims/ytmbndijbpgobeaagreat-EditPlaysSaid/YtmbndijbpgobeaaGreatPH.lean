/-
  The law EditPlays of layer 15 holds for all lists of edits. Part 8 of 12.
-/
import Derived.Test.YtmbndijbpgobeaaGreatPG
import Derived.StillTailTactics
import Derived.Maps.OwnOps
import Derived.IntWalk
import Derived.RangeFuncNested
import Derived.RangeFuncBound
import Derived.RangeFuncCalls
import Derived.RangeFuncLeaves
import Derived.Shelf.Abstract
import Derived.Shelf.RegionOpen
import Derived.OwnWalkIn
import Derived.TacticsInMore
import Derived.LoopNIn
import Derived.LoopIn
import Derived.RangeFuncBox
import Derived.Maps.AppendAt
import Derived.Lib.BufferMore
import Derived.Laws.CopyRow
import Derived.LoopTactic
import Derived.Outline
import Derived.WalkKit
import Derived.WalkLawsBesides
section
namespace Go.Proofs.YtmbndijbpgobeaaGreat.PWalk
open Go.RowKit Go.Proofs.YtmbndijbpgobeaaGreatW.PrintWords Go.Proofs.YtmbndijbpgobeaaGreatW.PrintLast Go.Proofs.YtmbndijbpgobeaaGreatW.PrintMore
set_option linter.unusedVariables false
set_option linter.unusedSimpArgs false
open Go.Shelf
attribute [local go_sem] Oper.semAt_some
section
def index_Dots.f (l0 : List Node) (a1 a2 : Int) : Option (List Dot × Int) :=
 if l0.length ≤ 1000000 then some (if zak l0 = true then (if a1 < 0 ∨ a2 < a1 ∨ (visOf l0).length < a2 then ([], 3) else ((((visOf l0).take a2.toNat).drop a1.toNat).map (·.f0), 0)) else ([], 2)) else none
theorem first2_out {a b r : Int} (h : index_first.f 10 [a, b] = some r) : r = if a = 0 then b else a := by rw [first2_is] at h; exact (Option.some.inj h).symm
theorem visOf_le {ll : List Node} (hl : ll.length ≤ 1000000) (hs : zak ll = true) : (visOf ll).length ≤ 1000000 := by
 have h1 := aliveOf_le (nds (ordOf ll))
 have h2 := ord_le (store_of hs)
 rw [nds_length] at h1
 unfold visOf
 omega
theorem lit_dotsC (W : World) (g : Nat) (hg : W.heap.size = g) (xs : List Dot) (cs : Array Value) (hcs : cs.toList = dcellsOf xs) (hm : xs.length ≤ 1000000) : Kd.C k25 (W.alloc (.cells cs 25 (0, 0))) (some ⟨g, 0, none⟩) xs.length xs := by
 subst hg
 have hsz : cs.size = xs.length * 2 := by rw [← Array.length_toList, hcs, dcellsOf_length]
 have h : RD (W.alloc (.cells cs 25 (0, 0))) 0 (.slice (some ⟨W.heap.size, 0, none⟩) xs.length xs.length) xs := RD_of_cells ⟨dcellsOf_length _, .inr ⟨W.heap.size, xs.length, cs, rfl, Nat.zero_le _, zal _ _, Nat.le_refl _, (show xs.length ≤ 9223372036854775807 by omega), hsz, by rw [← hcs, List.take_of_length_le (by rw [Array.length_toList]; omega)]⟩⟩
 exact (Kd.R_reads' h).2.2
theorem app_dots {ops : Array Oper} {Q : Exit → Act → World → Prop} {o : Oper} {rest : List Oper} {a : Act} {W : World} (w : World) (hgd : o.guard = none) (x y : Operand)
  (ho : o.op = .call { callee := .builtin .append, args := #[x, y], argTypes := #[70, 70] }) (v : Value) (xs : List Dot) (A : Option Addr) (ys : List Dot) (n c : Nat) (hn : ys.length = n) (hx : a.eval x = v) (hy : a.eval y = .slice A n c)
  (hr : Kd.R k25 25 W w.heap.size (fun _ => True) v xs) (hc : Kd.C k25 W A n ys) (hb : Below w.heap.size w W) (hl : xs.length + n ≤ 1000000)
  (h : ∀ v1 w1, Kd.R k25 25 w1 w.heap.size (fun _ => True) v1 (xs ++ ys) → Below w.heap.size w w1 → wpList Tryz.prog ops Q rest (a.put o.dst v1) w1) : wpList Tryz.prog ops Q (o :: rest) a W := by
 subst hn
 refine Kd.R_append_rows k25 (w0 := w) w.heap.size hgd x y 70 25 (.agg #[(.int .i64 0), (.int .i64 0)]) 16 ho Tryz.underlying70 info25 rfl (by decide) (by decide) v xs ys A ys.length c (fun _ => True) (fun _ => False) hx hy hr hc (fun x cs h => (by rw [k25_open h]; exact k25_mkM _ _ _ x)) (fun _ hk => hk.elim) (fun _ _ => trivial) hb hb.size (by omega) ?_
 intro v1 w1 ho hb _ _
 exact h v1 w1 ho hb
theorem dots_end {b : Bool} {ev n2 r3 : Int} {t : Bool} (hv : (b = true → ev = 0) ∧ (b = false → ev = 2)) (h2 : n2 = if t = true then 3 else 0) (h3 : r3 = if ev = 0 then n2 else ev) : (r3 = 0 → b = true ∧ t = false) ∧ (¬ r3 = 0 → (r3 = if b = true then 3 else 2) ∧ (b = true → t = true)) := by
 cases b with
 | false => have := hv.2 rfl; subst this h3; simp
 | true =>
  have := hv.1 rfl
  subst this h3 h2
  cases t <;> simp
set_option maxHeartbeats 1000000 in
set_option maxRecDepth 100000 in
theorem index_Dots.calls (A0 : Option Addr) (c0 : Nat) (ll : List Node) (a1 a2 : Int) (r1 : List Dot) (r2 : Int) (w : World) (hr0 : Kd.C k53 w A0 ll.length ll) (hc0 : ll.length ≤ c0) (h : index_Dots.f ll a1 a2 = some (r1, r2)) :
  Calls Tryz.prog 43 #[.slice A0 ll.length c0, .int .i64 a1, .int .i64 a2] w fun e w' => ∃ v0_ : Value, e = .returned (.tuple #[v0_, .int .i64 r2]) ∧ Kd.R k25 25 w' w.heap.size (fun _ => True) v0_ r1 ∧ Below w.heap.size w w' := by
 unfold index_Dots.f at h
 by_cases hl : ll.length ≤ 1000000
 rotate_left
 ·
  rw [if_neg hl] at h; cases h
 rw [if_pos hl] at h
 have HH := za0.mk (Option.some.inj h)
 have HR := za0.mk hr0
 have HC := za0.mk hc0
 have HL := za0.mk hl
 clear h hr0 hc0 hl
 obtain ⟨b, Hb⟩ : ∃ b, za0 (zak ll = b) := ⟨_, ⟨rfl⟩⟩
 obtain ⟨vl, ev, HV⟩ : ∃ vl ev, za0 (index_visible.f ll = some (vl, ev) ∧ (b = true → vl = visOf ll ∧ ev = 0) ∧ (b = false → vl = [] ∧ ev = 2)) := by
  rw [vis_is HL.out]
  cases b with
  | true => exact ⟨visOf ll, 0, ⟨by rw [if_pos Hb.out], fun _ => ⟨rfl, rfl⟩, fun h => (by cases h)⟩⟩
  | false => exact ⟨[], 2, ⟨by rw [if_neg (by rw [Hb.out]; decide)], fun h => (by cases h), fun _ => ⟨rfl, rfl⟩⟩⟩
 rw [Hb.out] at HH
 obtain ⟨t, Ht⟩ : ∃ t : Bool, za0 (decide (a1 < 0 ∨ a2 < a1 ∨ (vl.length : Int) < a2) = t) := ⟨_, ⟨rfl⟩⟩
 obtain ⟨n2, H2⟩ : ∃ n, za0 (index_when.f t 3 = some n) := ⟨_, ⟨when_is _ _⟩⟩
 obtain ⟨r3, H3⟩ : ∃ n, za0 (index_first.f 10 [ev, n2] = some n) := ⟨_, ⟨first2_is _ _⟩⟩
 have HE := za0.mk (dots_end (b := b) (t := t) (ev := ev) ⟨fun e => (HV.out.2.1 e).2, fun e => (HV.out.2.2 e).2⟩ (when_out H2.out) (first2_out H3.out))
 go_enter Tryz.func43, Tryz.ntmps43
 go_wp2_with fail
 refine (index_visible.calls A0 _ ll vl ev _ HR.out HC.out HV.out.1).mono ?_
 rintro e W ⟨v, rfl, hR, hb⟩
 have HRO := za0.mk hR
 have HB := za0.mk hb
 clear hR hb
 obtain ⟨A, c, rfl⟩ := RN.slice HRO.out
 have hlc : vl.length ≤ c := (Kd.R_reads' HRO.out).2.1
 have HM := za0.mk (Kd.C_max (Kd.R_reads' HRO.out).2.2)
 have HN := za0.mk (show ¬ r3 = 0 → r1 = [] ∧ r2 = r3 from fun hr => by
  obtain ⟨h1, h2⟩ := HE.out.2 hr
  have hh := HH.out
  cases hb : b with
  | false => rw [hb] at hh h1; rw [if_neg (by decide)] at hh; cases hh; exact ⟨rfl, by rw [h1]; rfl⟩
  | true =>
   have ht := Ht.out
   rw [h2 hb, (HV.out.2.1 hb).1] at ht
   rw [hb] at hh h1
   rw [if_pos rfl, if_pos (of_decide_eq_true ht)] at hh
   cases hh
   exact ⟨rfl, by rw [h1]; rfl⟩)
 have HY := za0.mk (show r3 = 0 → r1 = ((vl.take a2.toNat).drop a1.toNat).map (·.f0) ∧ r2 = 0 ∧ vl.length ≤ 1000000 from fun hr => by
  obtain ⟨h1, h2⟩ := HE.out.1 hr
  have hh := HH.out
  have ht := Ht.out
  rw [h2, (HV.out.2.1 h1).1] at ht
  rw [h1, if_pos rfl, if_neg (of_decide_eq_false ht)] at hh
  rw [(HV.out.2.1 h1).1]
  cases hh
  exact ⟨rfl, rfl, visOf_le HL.out (Hb.out.trans h1)⟩)
 by_cases q1 : a1 < 0
 ·
  have b1 : decide (a1 < 0) = true := decide_eq_true q1
  obtain rfl : t = true := by rw [← Ht.out]; simp; omega
  clear q1
  go_wp2_with fail
  refine (index_when.calls true 3 n2 _ H2.out).mono ?_
  rintro e W2 ⟨rfl, hb⟩
  have HB := za0.mk (za5 HB.out hb.below)
  clear hb HRO
  go_wp2_with fail
  refine (index_first.calls 10 (some ⟨W2.heap.size, 0, none⟩) 2 [ev, n2] r3 _ (errs_C (zs := [ev, n2]) (zal W2 _) (by show 2 ≤ 1000000; omega)) (Nat.le_refl 2) H3.out).mono ?_
  rintro e W3 ⟨rfl, hb⟩
  have HB := za0.mk (za5 (za2 HB.out _) hb.below)
  clear hb
  have hr : ¬ r3 = 0 := fun e => by have := (HE.out.1 e).2; cases this
  obtain ⟨e1, e2⟩ := HN.out hr
  subst e1 e2
  have hr1 : (r2 != 0) = true := by simp [hr]
  clear hr
  go_wp2
  go_ret2
  exact ⟨_, rfl, Kd.R_nil _ _ _ _ _, HB.out⟩
 ·
  by_cases q2 : a2 < a1
  ·
   have b1 : decide (a1 < 0) = false := decide_eq_false q1
   have b2 : decide (a2 < a1) = true := decide_eq_true q2
   obtain rfl : t = true := by rw [← Ht.out]; simp; omega
   clear q1 q2
   go_wp2_with fail
   refine (index_when.calls true 3 n2 _ H2.out).mono ?_
   rintro e W2 ⟨rfl, hb⟩
   have HB := za0.mk (za5 HB.out hb.below)
   clear hb HRO
   go_wp2_with fail
   refine (index_first.calls 10 (some ⟨W2.heap.size, 0, none⟩) 2 [ev, n2] r3 _ (errs_C (zs := [ev, n2]) (zal W2 _) (by show 2 ≤ 1000000; omega)) (Nat.le_refl 2) H3.out).mono ?_
   rintro e W3 ⟨rfl, hb⟩
   have HB := za0.mk (za5 (za2 HB.out _) hb.below)
   clear hb
   have hr : ¬ r3 = 0 := fun e => by have := (HE.out.1 e).2; cases this
   obtain ⟨e1, e2⟩ := HN.out hr
   subst e1 e2
   have hr1 : (r2 != 0) = true := by simp [hr]
   clear hr
   go_wp2
   go_ret2
   exact ⟨_, rfl, Kd.R_nil _ _ _ _ _, HB.out⟩
  ·
   by_cases q3 : (vl.length : Int) < a2
   ·
    have b1 : decide (a1 < 0) = false := decide_eq_false q1
    have b2 : decide (a2 < a1) = false := decide_eq_false q2
    have b3 : decide (a2 > (vl.length : Int)) = true := decide_eq_true q3
    obtain rfl : t = true := by rw [← Ht.out]; simp; omega
    clear q1 q2 q3
    go_wp2_with fail
    refine (index_when.calls true 3 n2 _ H2.out).mono ?_
    rintro e W2 ⟨rfl, hb⟩
    have HB := za0.mk (za5 HB.out hb.below)
    clear hb HRO
    go_wp2_with fail
    refine (index_first.calls 10 (some ⟨W2.heap.size, 0, none⟩) 2 [ev, n2] r3 _ (errs_C (zs := [ev, n2]) (zal W2 _) (by show 2 ≤ 1000000; omega)) (Nat.le_refl 2) H3.out).mono ?_
    rintro e W3 ⟨rfl, hb⟩
    have HB := za0.mk (za5 (za2 HB.out _) hb.below)
    clear hb
    have hr : ¬ r3 = 0 := fun e => by have := (HE.out.1 e).2; cases this
    obtain ⟨e1, e2⟩ := HN.out hr
    subst e1 e2
    have hr1 : (r2 != 0) = true := by simp [hr]
    clear hr
    go_wp2
    go_ret2
    exact ⟨_, rfl, Kd.R_nil _ _ _ _ _, HB.out⟩
   ·
    have b1 : decide (a1 < 0) = false := decide_eq_false q1
    have b2 : decide (a2 < a1) = false := decide_eq_false q2
    have b3 : decide (a2 > (vl.length : Int)) = false := decide_eq_false q3
    obtain rfl : t = false := by rw [← Ht.out]; simp; omega
    have Q := za0.mk (show 0 ≤ a1 ∧ a1 ≤ a2 ∧ a2 ≤ vl.length by omega)
    clear q1 q2 q3
    go_wp2_with fail
    refine (index_when.calls false 3 n2 _ H2.out).mono ?_
    rintro e W2 ⟨rfl, hb⟩
    have HB := za0.mk (za5 HB.out hb.below)
    have HRO := za0.mk (own_more HRO.out hb.below)
    clear hb
    go_wp2_with fail
    refine (index_first.calls 10 (some ⟨W2.heap.size, 0, none⟩) 2 [ev, n2] r3 _ (errs_C (zs := [ev, n2]) (zal W2 _) (by show 2 ≤ 1000000; omega)) (Nat.le_refl 2) H3.out).mono ?_
    rintro e W3 ⟨rfl, hb⟩
    have HB := za0.mk (za5 (za2 HB.out _) hb.below)
    have HRO := za0.mk (own_more (own_more HRO.out (za2 (Below.refl _ W2) _)) hb.below)
    clear hb
    by_cases hr : r3 = 0
    rotate_left
    ·
     obtain ⟨e1, e2⟩ := HN.out hr
     subst e1 e2
     have hr1 : (r2 != 0) = true := by simp [hr]
     clear hr
     go_wp2
     go_ret2
     exact ⟨_, rfl, Kd.R_nil _ _ _ _ _, HB.out⟩
    ·
     have hr1 : (r3 != 0) = false := by simp [hr]
     have HYY := za0.mk (HY.out hr)
     obtain ⟨i0, hi0, _, hsz, _⟩ := info_parts infoN
     have hcut := cut_mid (P := Tryz.prog) 22 53 .i64 .i64 Tryz.underlying22 hi0 6 hsz A vl.length c a1 a2 Q.out.1 Q.out.2.1 Q.out.2.2 hlc
     have hry := Kd.C_mid (lo := a1.toNat) (hi := a2.toNat) (c := c) (Kd.R_reads' HRO.out).2.2 (by have := Q.out; omega) (by have := Q.out; omega) hlc
     obtain ⟨y, Hy⟩ : ∃ y, za0 ((vl.take a2.toNat).drop a1.toNat = y) := ⟨_, ⟨rfl⟩⟩
     obtain ⟨Ay, HAy⟩ : ∃ Ay, za0 ((if c = a1.toNat then A else (A : Option Addr).map (·.add (a1.toNat * 6))) = Ay) := ⟨_, ⟨rfl⟩⟩
     have hyl : a2.toNat - a1.toNat = y.length := by rw [← Hy.out, List.length_drop, List.length_take]; have := Q.out; omega
     rw [Hy.out] at hry
     replace hry : Kd.C k53 W3 Ay y.length y := by rw [← HAy.out]; exact hry
     have HRY := za0.mk hry
     rw [HAy.out, hyl] at hcut
     have HYL := za0.mk (show y.length ≤ 1000000 by have := HYY.out.2.2; have := Q.out; omega)
     have HYE := za0.mk (show r1 = y.map (·.f0) ∧ r2 = 0 by rw [← Hy.out]; exact ⟨HYY.out.1, HYY.out.2.1⟩)
     have hmy := Kd.C_max hry
     clear hry hr hi0 hsz hyl
     go_wp2
     go_loopw [10, 43] (fun v10 v43 wr => ∃ (j : Nat), v43 = .int .i64 j ∧ j ≤ y.length ∧ za0 (Kd.R k25 25 wr W3.heap.size (fun _ => True) v10 ((y.take j).map (·.f0))) ∧ za0 (Below W3.heap.size W3 wr)) (fun _ v43 _ => y.length - (intOf v43).toNat)
     case atStart => exact ⟨0, rfl, Nat.zero_le _, ⟨Kd.R_nil _ _ _ _ _⟩, ⟨Below.refl _ _⟩⟩
     case round =>
      obtain ⟨j, rfl, hjl, HO, HW⟩ := hrel
      by_cases hlt : j < y.length
      ·
       obtain ⟨x, hx⟩ : ∃ x, za0 (y[j]? = some x) := ⟨_, ⟨List.getElem?_eq_getElem hlt⟩⟩
       obtain ⟨ad, e, h0, h1, h2, h3, h4, h5⟩ := node_at HRY.out HW.out j x hx.out
       clear hcut
       subst e
       go_wp2_with (at_builtin; refine app_dots W3 rfl (.tmp 47) (.tmp 50) rfl _ ((y.take j).map (·.f0)) _ [x.f0] 1 1 rfl rfl rfl (Kd.R_below HO.out (za2 (za2 (Below.refl _ wr) _) _)) (lit_dotsC _ _ (by simp) [x.f0] _ rfl (Nat.le_of_ble_eq_true rfl)) (za2 (za2 HW.out _) _) (by rw [List.length_map, List.length_take]; have := HYL.out; omega) ?_; intro v1 w1 ho hb1)
       go_roundw
       case rel => exact ⟨j + 1, by go_num, by omega, ⟨by rw [List.take_add_one, hx.out, List.map_append]; exact ho⟩, ⟨hb1⟩⟩
       case measure => simp [intOf]; omega
      ·
       obtain rfl : j = y.length := by omega
       have HOR := HO.out
       rw [List.take_length] at HOR
       have HOR2 := za0.mk (Kd.R_lower HOR HB.out.size)
       obtain ⟨e1, e2⟩ := HYE.out
       rw [← e1] at HOR2
       subst e2
       clear HOR e1
       go_wp2
       go_ret2
       exact ⟨_, rfl, HOR2.out, za5 HB.out HW.out⟩
end
end Go.Proofs.YtmbndijbpgobeaaGreat.PWalk
end
section
namespace Go.Proofs.YtmbndijbpgobeaaGreat.PWalk
open Go.RowKit Go.Proofs.YtmbndijbpgobeaaGreatW.PrintWords Go.Proofs.YtmbndijbpgobeaaGreatW.PrintLast Go.Proofs.YtmbndijbpgobeaaGreatW.PrintMore
attribute [local go_sem] max2_int max_two
set_option linter.unusedVariables false
set_option linter.unusedSimpArgs false
section
def index_Runes.l0 : Nat → Int → List Int → List (S53) → Int → Int → Option (List Int × Int)
 | 0, _, _, _, _, _ => none
 | k + 1, x5, x6, x14, x15, x16 => if x16 < x15 then (if 0 ≤ x16 then (if x16 < (x14.length : Int) then (if x6.length < 35184372088832 then (index_Runes.l0 k x5 (x6 ++ [(za9 x14 x16).f3]) x14 x15 (wrap64 (x16 + 1))) else (none)) else (none)) else (none)) else (some (x6, x5))
def index_Runes.f (k : Nat) (l0 : List (S53)) : Option (List Int × Int) := (index_visible.f l0).bind fun bt216 => (index_Runes.l0 k bt216.2 ([] : List Int) bt216.1 (bt216.1.length : Int) 0)
set_option maxHeartbeats 8000000 in
set_option maxRecDepth 100000 in
theorem index_Runes.calls (k : Nat) (A0 : Option Addr) (c0 : Nat) (l0 : List (S53)) (r1 : List Int) (r2 : Int) (w : World) (hr0 : Kd.C k53 w A0 l0.length l0) (hc0 : l0.length ≤ c0) (h : index_Runes.f k l0 = some (r1, r2)) :
  Calls Tryz.prog 56 #[.slice A0 l0.length c0] w fun e w' => ∃ v0_ : Value, e = .returned (.tuple #[v0_, .int .i64 r2]) ∧ Kd.R (Kd.int .i32) 21 w' w.heap.size (fun _ => True) v0_ r1 ∧ Below w.heap.size w w' := by
 have hu53 := Tryz.underlying53
 have HR0 := za0.mk hr0
 have HC0 := za0.mk hc0
 clear hr0 hc0
 have HB := za0.mk (Below.refl w.heap.size w)
 have H : ((index_visible.f l0).bind fun bt216 => (index_Runes.l0 k bt216.2 ([] : List Int) bt216.1 (bt216.1.length : Int) 0)) = some (r1, r2) := h
 clear h
 replace H := Option.bind_eq_some_iff.mp H
 obtain ⟨⟨t216, t217⟩, A20, H⟩ := H
 replace H : (index_Runes.l0 k t217 ([] : List Int) t216 (t216.length : Int) 0) = some (r1, r2) := H
 have A2 := za0.mk A20
 clear A20
 have H' := za0.mk H
 clear H
 go_enter Tryz.func56, Tryz.ntmps56
 go_wp2_with (first | ((with_reducible refine zah (f := 64) rfl ?_); refine zar (some 11) rfl rfl Tryz.func64 (by kernel_rfl) rfl #[.slice A0 l0.length c0] rfl (by (try simp only [List.map_toArray, List.map_cons, List.map_nil]); first | done | rfl | (simp only [List.length_drop, List.length_take]; rfl)) ?_; (with_reducible refine (index_visible.calls _ _ l0 t216 t217 _ ?side1 ?side2 A2.out).mono ?_); (case side1 => repeat (first | exact HR0.out | (with_reducible refine Kd.C_alloc ?_ _) | (with_reducible refine Kd.C_drewN ?_ _) | (with_reducible refine Kd.C_drew ?_))); (case side2 => exact HC0.out); rintro e w3 ⟨v218, rfl, ho0, hb⟩; refine ⟨_, rfl, ?_⟩; have n0_ := za0.mk (Kd.R_lower ho0 (za8 (by repeat (first | (with_reducible first | exact HB.out | apply za2 | apply za1 | apply za3) | exact HB.out)))); have n1_ := za0.mk (zaa (by repeat (first | (with_reducible first | exact HB.out | apply za2 | apply za1 | apply za3) | exact HB.out)) hb); clear HB; have HO219 := n0_; have HB := n1_; clear n0_ n1_; (try clear hb); (try clear hb2); (try clear hk); (try clear hi); (try clear ho0); obtain ⟨Ao4, co4, eo4⟩ := Kd.R_slice HO219.out; subst eo4))
 go_loopg [6, 16] k (fun kq v6 v16 w' => ∃ (x6_1 : List Int) (x16_1 : Int), v16 = .int .i64 x16_1 ∧ za0 (index_Runes.l0 kq t217 x6_1 t216 (t216.length : Int) x16_1 = some (r1, r2)) ∧ za0 (kq ≤ k) ∧ za0 (Kd.R (Kd.int .i32) 21 w' w.heap.size (fun _ => True) v6 x6_1) ∧ za0 (Kd.R k53 53 w' w.heap.size (fun _ => True) (.slice Ao4 t216.length co4) t216) ∧ za0 (Below w.heap.size w w'))
 case atStart => exact ⟨(([] : List Int)), (0), (by first | rfl | (simp; done) | (simp [*]; done)), H', ⟨Nat.le_refl _⟩, ⟨by first | exact Kd.R_nil _ _ _ _ _ | exact Kd.N_nil _ _ _ _ _ | exact Kd.V_nil _ _ _ _ _ | exact Kd.Q_nil _ _ _ _ _ | exact Kd.S_nil _ _ _ _ _⟩, ⟨by (with_reducible repeat (first | apply Kd.R_alloc | apply Kd.R_drewN | apply Kd.R_drew)); exact HO219.out⟩, ⟨by repeat (first | (with_reducible first | exact HB.out | apply za2 | apply za1 | apply za3) | exact HB.out)⟩⟩
 case round =>
  clear H'
  try clear p2
  obtain ⟨x6_1, x16_1, rfl, HA, HK1, HO_6, HO_14, HB⟩ := hrel
  cases gk with
  | zero => exact absurd HA.out (by simp [index_Runes.l0])
  | succ k1 =>
   have H := HA.out
   clear HA
   simp only [index_Runes.l0] at H
   by_cases c5 : x16_1 < (t216.length : Int)
   ·
    rw [if_pos c5] at H
    have c5b0 : decide (x16_1 < (t216.length : Int)) = true := decide_eq_true c5
    clear c5
    by_cases c6 : 0 ≤ x16_1
    ·
     rw [if_pos c6] at H
     have c6b0 : decide (0 ≤ x16_1) = true := decide_eq_true c6
     clear c6
     by_cases c7 : x16_1 < (t216.length : Int)
     ·
      rw [if_pos c7] at H
      have c7b0 : decide (x16_1 < (t216.length : Int)) = true := decide_eq_true c7
      clear c7
      by_cases c8 : x6_1.length < 35184372088832
      ·
       rw [if_pos c8] at H
       have LMc8 := za0.mk c8
       clear c8
       obtain ⟨y222, hy222⟩ : ∃ y_ : List Int, y_ = (x6_1 ++ [(za9 t216 x16_1).f3]) := ⟨_, rfl⟩
       replace H : (index_Runes.l0 k1 t217 y222 t216 (t216.length : Int) (wrap64 (x16_1 + 1))) = some (r1, r2) := by first | (rw [hy222]; with_reducible exact H) | (have H2_ := (Option.bind_some _ _).symm.trans H; rw [hy222]; with_reducible exact H2_) | (have H2_ := (Option.bind_some _ _).symm.trans H; with_reducible exact H2_) | with_reducible exact H | (rw [hy222]; exact H) | exact H
       have Ny222 := za0.mk hy222
       clear hy222
       have H' := za0.mk H
       clear H
       have p220 : 0 ≤ (x16_1 : Int) := of_decide_eq_true (by first | (with_reducible assumption) | assumption)
       have q220 : x16_1 < (t216.length : Int) := of_decide_eq_true (by first | (with_reducible assumption) | assumption)
       obtain ⟨ad220, e220, hx220_0, hx220_1, hx220_2, hx220_3, hx220_4, hx220_5⟩ := at_T53 (Kd.R_reads' HO_14.out).2.2 x16_1 p220 q220
       cases e220
       replace p220 := eq_true p220
       replace q220 := eq_true q220
       go_wp2_with (first | ((with_reducible refine zaq (N := 8) rfl ?_); refine zao ?hg (N := 8) ?hd (cs := #[.int .i64 0, .int .i64 0, .int .i64 0, .int .i64 0, .int .i64 0, .int .i32 0]) (t := 53) ?hr ?_; (case hd => rfl); (case hg => rfl); (case hr => first | (go_simp; done) | (go_simp; rfl)); intro gb221 hg w9 hbox hb; have n0_ := za0.mk (Kd.R_below (by (with_reducible repeat (first | apply Kd.R_alloc | apply Kd.R_drewN | apply Kd.R_drew)); exact HO_6.out) hb); have n1_ := za0.mk (Kd.R_below (Kd.R_elderB (by (with_reducible repeat (first | apply Kd.R_alloc | apply Kd.R_drewN | apply Kd.R_drew)); exact HO_14.out) gb221 (Nat.le_of_eq hg.symm)) hb); have n2_ := za0.mk (zaa (by repeat (first | (with_reducible first | exact HB.out | apply za2 | apply za1 | apply za3) | exact HB.out)) hb); have n3_ := za0.mk (hbox); have n4_ := za0.mk ((by rw [hg]; exact (za8 (by repeat (first | (with_reducible first | exact HB.out | apply za2 | apply za1 | apply za3) | exact HB.out))) : w.heap.size ≤ gb221)); have n5_ := za0.mk ((by rw [hg]; exact (za8 (by repeat (first | (with_reducible first | exact HB.out | apply za2 | apply za1 | apply za3) | exact HB.out))) : w.heap.size ≤ gb221)); clear HO_6; clear HO_14; clear HB; have HO_6 := n0_; have HO_14 := n1_; have HB := n2_; have BK221 := n3_; have GW221 := n4_; have GE221 := n5_; clear n0_ n1_ n2_ n3_ n4_ n5_; clear hb hbox hg; have hcz10_0 : w9.cell? ⟨gb221, 0, none⟩ = some (.int .i64 0) := (za4 BK221.out 0).trans rfl; have hcz10_1 : w9.cell? ⟨gb221, 1, none⟩ = some (.int .i64 0) := (za4 BK221.out 1).trans rfl; have hcz10_2 : w9.cell? ⟨gb221, 2, none⟩ = some (.int .i64 0) := (za4 BK221.out 2).trans rfl; have hcz10_3 : w9.cell? ⟨gb221, 3, none⟩ = some (.int .i64 0) := (za4 BK221.out 3).trans rfl; have hcz10_4 : w9.cell? ⟨gb221, 4, none⟩ = some (.int .i64 0) := (za4 BK221.out 4).trans rfl; have hcz10_5 : w9.cell? ⟨gb221, 5, none⟩ = some (.int .i32 0) := (za4 BK221.out 5).trans rfl; have hfz10_0 := za6 BK221.out 0; have hfz10_1 := za6 BK221.out 1; have hfz10_2 := za6 BK221.out 2; have hfz10_3 := za6 BK221.out 3; have hfz10_4 := za6 BK221.out 4; have hfz10_5 := za6 BK221.out 5) | ((with_reducible refine gate_builtin (b := .append) (xs := #[.tmp 20, .tmp 23]) rfl ?_); at_builtin; refine Kd.R_append (Kd.int .i32) (w0 := w) w.heap.size rfl (.tmp 20) (.tmp 23) 26 21 (.int .i32 0) 4 rfl Tryz.underlying26 info21 rfl (by decide) (by omega) u6 x6_1 ((za9 t216 x16_1).f3) [.int .i32 ((za9 t216 x16_1).f3)] (fun _ => True) (fun _ => False) rfl (by first | (go_simp; done) | (go_simp; rfl)) ?aP (fun _ hk => hk.elim) ?aF ?aO ?aB ?aS ?aL ?_; (case aP => exact rfl); (case aB => exact (by repeat (first | (with_reducible first | exact HB.out | apply za2 | apply za1 | apply za3 | refine zae ?_ GE221.out) | exact HB.out))); (case aF => exact (fun _ _ => trivial)); (case aO => exact (by (with_reducible repeat (first | apply Kd.R_alloc | apply Kd.R_drewN | apply Kd.R_drew)); exact Kd.R_mono (Kd.R_far (p := ⟨gb221, 5, none⟩) (Kd.R_far (p := ⟨gb221, 4, none⟩) (Kd.R_far (p := ⟨gb221, 3, none⟩) (Kd.R_far (p := ⟨gb221, 2, none⟩) (Kd.R_far (p := ⟨gb221, 1, none⟩) (Kd.R_far (p := ⟨gb221, 0, none⟩) (Kd.R_types HO_6.out BK221.out (by decide)) (fun _ hk => hk.2) (.int .i64 ((za9 t216 x16_1).f0.f0))) (fun _ hk => hk.2) (.int .i64 ((za9 t216 x16_1).f0.f1))) (fun _ hk => hk.2) (.int .i64 ((za9 t216 x16_1).f1.f0))) (fun _ hk => hk.2) (.int .i64 ((za9 t216 x16_1).f1.f1))) (fun _ hk => hk.2) (.int .i64 ((za9 t216 x16_1).f2))) (fun _ hk => hk.2) (.int .i32 ((za9 t216 x16_1).f3))) (fun _ hk => trivial))); (case aS => exact (za8 (by repeat (first | (with_reducible first | exact HB.out | apply za2 | apply za1 | apply za3 | refine zae ?_ GE221.out) | exact HB.out)))); (case aL => have := LMc8.out; omega); intro v223 w11 ho hb hg hat; rw [← Ny222.out] at ho; have n0_ := za0.mk (Kd.R_over' (by (with_reducible repeat (first | apply Kd.R_alloc | apply Kd.R_drewN | apply Kd.R_drew)); exact (Kd.R_mono (Kd.R_far (p := ⟨gb221, 5, none⟩) (Kd.R_far (p := ⟨gb221, 4, none⟩) (Kd.R_far (p := ⟨gb221, 3, none⟩) (Kd.R_far (p := ⟨gb221, 2, none⟩) (Kd.R_far (p := ⟨gb221, 1, none⟩) (Kd.R_far (p := ⟨gb221, 0, none⟩) (Kd.R_mono HO_14.out (fun k_ hk => (⟨hk, hk.2⟩ : _ ∧ k_ ≠ gb221))) (fun _ hk => hk.2) (.int .i64 ((za9 t216 x16_1).f0.f0))) (fun _ hk => hk.2) (.int .i64 ((za9 t216 x16_1).f0.f1))) (fun _ hk => hk.2) (.int .i64 ((za9 t216 x16_1).f1.f0))) (fun _ hk => hk.2) (.int .i64 ((za9 t216 x16_1).f1.f1))) (fun _ hk => hk.2) (.int .i64 ((za9 t216 x16_1).f2))) (fun _ hk => hk.2) (.int .i32 ((za9 t216 x16_1).f3))) (fun _ h_ => h_.1))) (Kd.R_typed (by (with_reducible repeat (first | apply Kd.R_alloc | apply Kd.R_drewN | apply Kd.R_drew)); exact (Kd.R_mono (Kd.R_far (p := ⟨gb221, 5, none⟩) (Kd.R_far (p := ⟨gb221, 4, none⟩) (Kd.R_far (p := ⟨gb221, 3, none⟩) (Kd.R_far (p := ⟨gb221, 2, none⟩) (Kd.R_far (p := ⟨gb221, 1, none⟩) (Kd.R_far (p := ⟨gb221, 0, none⟩) (Kd.R_types HO_6.out BK221.out (by decide)) (fun _ hk => hk.2) (.int .i64 ((za9 t216 x16_1).f0.f0))) (fun _ hk => hk.2) (.int .i64 ((za9 t216 x16_1).f0.f1))) (fun _ hk => hk.2) (.int .i64 ((za9 t216 x16_1).f1.f0))) (fun _ hk => hk.2) (.int .i64 ((za9 t216 x16_1).f1.f1))) (fun _ hk => hk.2) (.int .i64 ((za9 t216 x16_1).f2))) (fun _ hk => hk.2) (.int .i32 ((za9 t216 x16_1).f3))) (fun _ h_ => h_.1)))) (by decide) hg); have n1_ := za0.mk (blk_grown (g := gb221) (o := .cells #[.int .i64 ((za9 t216 x16_1).f0.f0), .int .i64 ((za9 t216 x16_1).f0.f1), .int .i64 ((za9 t216 x16_1).f1.f0), .int .i64 ((za9 t216 x16_1).f1.f1), .int .i64 ((za9 t216 x16_1).f2), .int .i32 ((za9 t216 x16_1).f3)] 53 (0, 0)) (by (with_reducible repeat (first | refine zaj ?_ _ | refine zai ?_ | refine zad ?_ _)); refine blk_put (cs := #[.int .i64 ((za9 t216 x16_1).f0.f0), .int .i64 ((za9 t216 x16_1).f0.f1), .int .i64 ((za9 t216 x16_1).f1.f0), .int .i64 ((za9 t216 x16_1).f1.f1), .int .i64 ((za9 t216 x16_1).f2), .int .i32 0]) ?_ 5 _ rfl; (with_reducible repeat (first | refine zaj ?_ _ | refine zai ?_ | refine zad ?_ _)); refine blk_put (cs := #[.int .i64 ((za9 t216 x16_1).f0.f0), .int .i64 ((za9 t216 x16_1).f0.f1), .int .i64 ((za9 t216 x16_1).f1.f0), .int .i64 ((za9 t216 x16_1).f1.f1), .int .i64 0, .int .i32 0]) ?_ 4 _ rfl; (with_reducible repeat (first | refine zaj ?_ _ | refine zai ?_ | refine zad ?_ _)); refine blk_put (cs := #[.int .i64 ((za9 t216 x16_1).f0.f0), .int .i64 ((za9 t216 x16_1).f0.f1), .int .i64 ((za9 t216 x16_1).f1.f0), .int .i64 0, .int .i64 0, .int .i32 0]) ?_ 3 _ rfl; (with_reducible repeat (first | refine zaj ?_ _ | refine zai ?_ | refine zad ?_ _)); refine blk_put (cs := #[.int .i64 ((za9 t216 x16_1).f0.f0), .int .i64 ((za9 t216 x16_1).f0.f1), .int .i64 0, .int .i64 0, .int .i64 0, .int .i32 0]) ?_ 2 _ rfl; (with_reducible repeat (first | refine zaj ?_ _ | refine zai ?_ | refine zad ?_ _)); refine blk_put (cs := #[.int .i64 ((za9 t216 x16_1).f0.f0), .int .i64 0, .int .i64 0, .int .i64 0, .int .i64 0, .int .i32 0]) ?_ 1 _ rfl; (with_reducible repeat (first | refine zaj ?_ _ | refine zai ?_ | refine zad ?_ _)); refine blk_put (cs := #[.int .i64 0, .int .i64 0, .int .i64 0, .int .i64 0, .int .i64 0, .int .i32 0]) ?_ 0 _ rfl; (with_reducible repeat (first | refine zaj ?_ _ | refine zai ?_ | refine zad ?_ _)); exact BK221.out) hg (Kd.R_ne HO_6.out BK221.out (by decide))); have n2_ := za0.mk (hb); have n3_ := za0.mk (ho); clear HO_14; clear BK221; clear HB; clear HO_6; have HO_14 := n0_; have BK221 := n1_; have HB := n2_; have HO224 := n3_; clear n0_ n1_ n2_ n3_; clear ho hb hg hat))
       go_roundg k1
       case measure => have := HK1.out; omega
       case rel => exact ⟨(y222), (wrap64 (x16_1 + 1)), (by first | rfl | (simp; done) | (simp [*]; done)), H', ⟨by have := HK1.out; omega⟩, ⟨by (with_reducible repeat (first | apply Kd.R_alloc | apply Kd.R_drewN | apply Kd.R_drew)); exact HO224.out⟩, ⟨by (with_reducible repeat (first | apply Kd.R_alloc | apply Kd.R_drewN | apply Kd.R_drew)); exact Kd.R_mono HO_14.out (fun _ hk => trivial)⟩, ⟨by repeat (first | (with_reducible first | exact HB.out | apply za2 | apply za1 | apply za3 | refine zae ?_ GE221.out) | exact HB.out)⟩⟩
      ·
       rw [if_neg c8] at H
       exact absurd H (by simp)
     ·
      rw [if_neg c7] at H
      exact absurd H (by simp)
    ·
     rw [if_neg c6] at H
     exact absurd H (by simp)
   ·
    rw [if_neg c5] at H
    have c5b0 : decide (x16_1 < (t216.length : Int)) = false := decide_eq_false c5
    clear c5
    simp only [Option.some.injEq, Prod.mk.injEq] at H
    obtain ⟨rfl, rfl⟩ := H
    go_wp2
    go_ret2
    exact ⟨_, by first | rfl | (simp [zac, zab] <;> rfl) | (simp [*, zac, zab] <;> rfl), by (with_reducible repeat (first | apply Kd.R_alloc | apply Kd.R_drewN | apply Kd.R_drew)); exact HO_6.out, by repeat (first | (with_reducible first | exact HB.out | apply za2 | apply za1 | apply za3) | exact HB.out)⟩
end
section
def store_Time.l0 : Nat → Int → List (S53) → Int → Int → Option (Int × Int)
 | 0, _, _, _, _ => none
 | k + 1, x4, x10, x11, x12 => if x12 < x11 then (if 0 ≤ x12 then (if x12 < (x10.length : Int) then (store_Time.l0 k (mx x4 ((za9 x10 x12).f2)) x10 x11 (wrap64 (x12 + 1))) else (none)) else (none)) else (some (x4, 0))
def store_Time.f (k : Nat) (l0 : List (S53)) : Option (Int × Int) := (store_Valid.f l0).bind fun t161 => (if t161 = true then (store_Time.l0 k 0 l0 (l0.length : Int) 0) else (some (0, 2)))
set_option maxHeartbeats 8000000 in
set_option maxRecDepth 100000 in
theorem store_Time.calls (k : Nat) (A0 : Option Addr) (c0 : Nat) (l0 : List (S53)) (r1 : Int) (r2 : Int) (w : World) (hr0 : Kd.C k53 w A0 l0.length l0) (hc0 : l0.length ≤ c0) (h : store_Time.f k l0 = some (r1, r2)) :
  Calls Tryz.prog 55 #[.slice A0 l0.length c0] w fun e w' => e = .returned (.tuple #[.int .i64 r1, .int .i64 r2]) ∧ Below w.heap.size w w' := by
 have hu53 := Tryz.underlying53
 have HR0 := za0.mk hr0
 have HC0 := za0.mk hc0
 clear hr0 hc0
 have HB := za0.mk (Below.refl w.heap.size w)
 have H : ((store_Valid.f l0).bind fun t161 => (if t161 = true then (store_Time.l0 k 0 l0 (l0.length : Int) 0) else (some (0, 2)))) = some (r1, r2) := h
 clear h
 replace H := Option.bind_eq_some_iff.mp H
 obtain ⟨t161, A20, H⟩ := H
 replace H : (if t161 = true then (store_Time.l0 k 0 l0 (l0.length : Int) 0) else (some (0, 2))) = some (r1, r2) := H
 have A2 := za0.mk A20
 clear A20
 by_cases c3 : t161 = true
 ·
  subst c3
  have H1 : (store_Time.l0 k 0 l0 (l0.length : Int) 0) = some (r1, r2) := by rw [if_pos rfl] at H; exact H
  clear H
  have H := H1
  clear H1
  have H' := za0.mk H
  clear H
  go_enter Tryz.func55, Tryz.ntmps55
  go_wp2_with (first | ((with_reducible refine zah (f := 67) rfl ?_); refine zar (some 8) rfl rfl Tryz.func67 (by kernel_rfl) rfl #[.slice A0 l0.length c0] rfl (by (try simp only [List.map_toArray, List.map_cons, List.map_nil]); first | done | rfl | (simp only [List.length_drop, List.length_take]; rfl)) ?_; (with_reducible refine (store_Valid.calls _ _ l0 true _ ?side1 ?side2 A2.out).mono ?_); (case side1 => repeat (first | exact HR0.out | (with_reducible refine Kd.C_alloc ?_ _) | (with_reducible refine Kd.C_drewN ?_ _) | (with_reducible refine Kd.C_drew ?_))); (case side2 => exact HC0.out); rintro e w4 ⟨rfl, hb⟩; refine ⟨_, rfl, ?_⟩; have n0_ := za0.mk (zaa (by repeat (first | (with_reducible first | exact HB.out | apply za2 | apply za1 | apply za3) | exact HB.out)) hb); clear HB; have HB := n0_; clear n0_; (try clear hb); (try clear hb2); (try clear hk); (try clear hi)))
  go_loopg [4, 12] k (fun kq v4 v12 w' => ∃ (x4_1 : Int) (x12_1 : Int), v4 = .int .i64 x4_1 ∧ v12 = .int .i64 x12_1 ∧ za0 (store_Time.l0 kq x4_1 l0 (l0.length : Int) x12_1 = some (r1, r2)) ∧ za0 (kq ≤ k) ∧ za0 (Below w.heap.size w w'))
  case atStart => exact ⟨(0), (0), (by first | rfl | (simp; done) | (simp [*]; done)), (by first | rfl | (simp; done) | (simp [*]; done)), H', ⟨Nat.le_refl _⟩, ⟨by repeat (first | (with_reducible first | exact HB.out | apply za2 | apply za1 | apply za3) | exact HB.out)⟩⟩
  case round =>
   clear H'
   try clear p2
   try clear c3
   obtain ⟨x4_1, x12_1, rfl, rfl, HA, HK1, HB⟩ := hrel
   cases gk with
   | zero => exact absurd HA.out (by simp [store_Time.l0])
   | succ k1 =>
    have H := HA.out
    clear HA
    simp only [store_Time.l0] at H
    by_cases c5 : x12_1 < (l0.length : Int)
    ·
     rw [if_pos c5] at H
     have c5b0 : decide (x12_1 < (l0.length : Int)) = true := decide_eq_true c5
     clear c5
     by_cases c6 : 0 ≤ x12_1
     ·
      rw [if_pos c6] at H
      have c6b0 : decide (0 ≤ x12_1) = true := decide_eq_true c6
      clear c6
      by_cases c7 : x12_1 < (l0.length : Int)
      ·
       rw [if_pos c7] at H
       have c7b0 : decide (x12_1 < (l0.length : Int)) = true := decide_eq_true c7
       clear c7
       obtain ⟨ji8, hji8⟩ : ∃ j_ : Int, (mx x4_1 ((za9 l0 x12_1).f2)) = j_ := ⟨_, rfl⟩
       replace H : (store_Time.l0 k1 ji8 l0 (l0.length : Int) (wrap64 (x12_1 + 1))) = some (r1, r2) := by first | (rw [hji8] at H; exact H) | (simp only [hji8] at H ⊢; exact H)
       have hji8_ : (if x4_1 < ((za9 l0 x12_1).f2) then ((za9 l0 x12_1).f2) else x4_1) = ji8 := hji8
       have H' := za0.mk H
       clear H
       have p162 : 0 ≤ (x12_1 : Int) := of_decide_eq_true (by first | (with_reducible assumption) | assumption)
       have q162 : x12_1 < (l0.length : Int) := of_decide_eq_true (by first | (with_reducible assumption) | assumption)
       obtain ⟨ad162, e162, hx162_0, hx162_1, hx162_2, hx162_3, hx162_4, hx162_5⟩ := at_T53 HR0.out x12_1 p162 q162
       cases e162
       replace hx162_0 := (HB.out.cell (World.block_lt_of_cell? w _ hx162_0)).trans hx162_0
       replace hx162_1 := (HB.out.cell (World.block_lt_of_cell? w _ hx162_1)).trans hx162_1
       replace hx162_2 := (HB.out.cell (World.block_lt_of_cell? w _ hx162_2)).trans hx162_2
       replace hx162_3 := (HB.out.cell (World.block_lt_of_cell? w _ hx162_3)).trans hx162_3
       replace hx162_4 := (HB.out.cell (World.block_lt_of_cell? w _ hx162_4)).trans hx162_4
       replace hx162_5 := (HB.out.cell (World.block_lt_of_cell? w _ hx162_5)).trans hx162_5
       replace p162 := eq_true p162
       replace q162 := eq_true q162
       go_wp2_with (first | ((with_reducible refine zaq (N := 6) rfl ?_); refine zao ?hg (N := 6) ?hd (cs := #[.int .i64 0, .int .i64 0, .int .i64 0, .int .i64 0, .int .i64 0, .int .i32 0]) (t := 53) ?hr ?_; (case hd => rfl); (case hg => rfl); (case hr => first | (go_simp; done) | (go_simp; rfl)); intro gb163 hg w9 hbox hb; have n0_ := za0.mk (zaa (by repeat (first | (with_reducible first | exact HB.out | apply za2 | apply za1 | apply za3) | exact HB.out)) hb); have n1_ := za0.mk (hbox); have n2_ := za0.mk ((by rw [hg]; exact (za8 (by repeat (first | (with_reducible first | exact HB.out | apply za2 | apply za1 | apply za3) | exact HB.out))) : w.heap.size ≤ gb163)); have n3_ := za0.mk ((by rw [hg]; exact (za8 (by repeat (first | (with_reducible first | exact HB.out | apply za2 | apply za1 | apply za3) | exact HB.out))) : w.heap.size ≤ gb163)); clear HB; have HB := n0_; have BK163 := n1_; have GW163 := n2_; have GE163 := n3_; clear n0_ n1_ n2_ n3_; clear hb hbox hg; have hcz10_0 : w9.cell? ⟨gb163, 0, none⟩ = some (.int .i64 0) := (za4 BK163.out 0).trans rfl; have hcz10_1 : w9.cell? ⟨gb163, 1, none⟩ = some (.int .i64 0) := (za4 BK163.out 1).trans rfl; have hcz10_2 : w9.cell? ⟨gb163, 2, none⟩ = some (.int .i64 0) := (za4 BK163.out 2).trans rfl; have hcz10_3 : w9.cell? ⟨gb163, 3, none⟩ = some (.int .i64 0) := (za4 BK163.out 3).trans rfl; have hcz10_4 : w9.cell? ⟨gb163, 4, none⟩ = some (.int .i64 0) := (za4 BK163.out 4).trans rfl; have hcz10_5 : w9.cell? ⟨gb163, 5, none⟩ = some (.int .i32 0) := (za4 BK163.out 5).trans rfl; have hfz10_0 := za6 BK163.out 0; have hfz10_1 := za6 BK163.out 1; have hfz10_2 := za6 BK163.out 2; have hfz10_3 := za6 BK163.out 3; have hfz10_4 := za6 BK163.out 4; have hfz10_5 := za6 BK163.out 5))
       go_roundg k1
       case measure => have := HK1.out; omega
       case rel => exact ⟨(ji8), (wrap64 (x12_1 + 1)), (by first | rfl | (simp; done) | (simp only [← hji8] <;> (first | rfl | simp)) | (simp [*]; done)), (by first | rfl | (simp; done) | (simp [*]; done)), H', ⟨by have := HK1.out; omega⟩, ⟨by repeat (first | (with_reducible first | exact HB.out | apply za2 | apply za1 | apply za3 | refine zae ?_ GE163.out) | exact HB.out)⟩⟩
      ·
       rw [if_neg c7] at H
       exact absurd H (by simp)
     ·
      rw [if_neg c6] at H
      exact absurd H (by simp)
    ·
     rw [if_neg c5] at H
     have c5b0 : decide (x12_1 < (l0.length : Int)) = false := decide_eq_false c5
     clear c5
     simp only [Option.some.injEq, Prod.mk.injEq] at H
     obtain ⟨rfl, rfl⟩ := H
     go_wp2
     go_ret2
     exact ⟨by first | rfl | (simp [zac, zab] <;> rfl) | (simp [*, zac, zab] <;> rfl), by repeat (first | (with_reducible first | exact HB.out | apply za2 | apply za1 | apply za3) | exact HB.out)⟩
 ·
  replace c3 := Bool.eq_false_iff.mpr c3
  subst c3
  have H1 : (some (0, 2)) = some (r1, r2) := by rw [if_neg (show ¬ (false = true) by decide)] at H; exact H
  clear H
  have H := H1
  clear H1
  simp only [Option.some.injEq, Prod.mk.injEq] at H
  obtain ⟨rfl, rfl⟩ := H
  go_enter Tryz.func55, Tryz.ntmps55
  go_wp2_with (first | ((with_reducible refine zah (f := 67) rfl ?_); refine zar (some 8) rfl rfl Tryz.func67 (by kernel_rfl) rfl #[.slice A0 l0.length c0] rfl (by (try simp only [List.map_toArray, List.map_cons, List.map_nil]); first | done | rfl | (simp only [List.length_drop, List.length_take]; rfl)) ?_; (with_reducible refine (store_Valid.calls _ _ l0 false _ ?side1 ?side2 A2.out).mono ?_); (case side1 => repeat (first | exact HR0.out | (with_reducible refine Kd.C_alloc ?_ _) | (with_reducible refine Kd.C_drewN ?_ _) | (with_reducible refine Kd.C_drew ?_))); (case side2 => exact HC0.out); rintro e w11 ⟨rfl, hb⟩; refine ⟨_, rfl, ?_⟩; have n0_ := za0.mk (zaa (by repeat (first | (with_reducible first | exact HB.out | apply za2 | apply za1 | apply za3) | exact HB.out)) hb); clear HB; have HB := n0_; clear n0_; (try clear hb); (try clear hb2); (try clear hk); (try clear hi)))
  go_ret2
  exact ⟨by first | rfl | (simp [zac, zab] <;> rfl) | (simp [*, zac, zab] <;> rfl), by repeat (first | (with_reducible first | exact HB.out | apply za2 | apply za1 | apply za3) | exact HB.out)⟩
def edit_Latest.f (k : Nat) (l0 : List (S53)) : Option (Int) := (store_Time.f k l0).bind fun bt164 => (some bt164.1)
set_option maxHeartbeats 8000000 in
set_option maxRecDepth 100000 in
theorem edit_Latest.calls (k : Nat) (A0 : Option Addr) (c0 : Nat) (l0 : List (S53)) (r : Int) (w : World) (hr0 : Kd.C k53 w A0 l0.length l0) (hc0 : l0.length ≤ c0) (h : edit_Latest.f k l0 = some r) :
  Calls Tryz.prog 23 #[.slice A0 l0.length c0] w fun e w' => e = .returned (.int .i64 r) ∧ Below w.heap.size w w' := by
 have HR0 := za0.mk hr0
 have HC0 := za0.mk hc0
 clear hr0 hc0
 have HB := za0.mk (Below.refl w.heap.size w)
 have H : ((store_Time.f k l0).bind fun bt164 => (some bt164.1)) = some r := h
 clear h
 replace H := Option.bind_eq_some_iff.mp H
 obtain ⟨⟨t164, t165⟩, A20, H⟩ := H
 replace H : (some t164) = some r := H
 have A2 := za0.mk A20
 clear A20
 obtain rfl := Option.some.inj H
 go_enter Tryz.func23, Tryz.ntmps23
 go_wp2_with (first | ((with_reducible refine zah (f := 55) rfl ?_); refine zar (some 7) rfl rfl Tryz.func55 (by kernel_rfl) rfl #[.slice A0 l0.length c0] rfl (by (try simp only [List.map_toArray, List.map_cons, List.map_nil]); first | done | rfl | (simp only [List.length_drop, List.length_take]; rfl)) ?_; (with_reducible refine (store_Time.calls k _ _ l0 t164 t165 _ ?side1 ?side2 A2.out).mono ?_); (case side1 => repeat (first | exact HR0.out | (with_reducible refine Kd.C_alloc ?_ _) | (with_reducible refine Kd.C_drewN ?_ _) | (with_reducible refine Kd.C_drew ?_))); (case side2 => exact HC0.out); rintro e w3 ⟨rfl, hb⟩; refine ⟨_, rfl, ?_⟩; have n0_ := za0.mk (zaa (by repeat (first | (with_reducible first | exact HB.out | apply za2 | apply za1 | apply za3) | exact HB.out)) hb); clear HB; have HB := n0_; clear n0_; (try clear hb); (try clear hb2); (try clear hk); (try clear hi)))
 go_ret
 exact ⟨by first | rfl | (simp [zac, zab] <;> rfl) | (simp [*, zac, zab] <;> rfl), by repeat (first | (with_reducible first | exact HB.out | apply za2 | apply za1 | apply za3) | exact HB.out)⟩
end
end Go.Proofs.YtmbndijbpgobeaaGreat.PWalk
end
section
namespace Go.Proofs.YtmbndijbpgobeaaGreat.PWalk
open Go.RowKit Go.Proofs.YtmbndijbpgobeaaGreatW.PrintWords Go.Proofs.YtmbndijbpgobeaaGreatW.PrintLast Go.Proofs.YtmbndijbpgobeaaGreatW.PrintMore
set_option linter.unusedVariables false
set_option linter.unusedSimpArgs false
open Go.Shelf
attribute [local go_sem] Oper.semAt_some
section
theorem rdN {l : List Node} {i : Nat} (h : i < l.length) : za9 l (i : Int) = l[i] := by simp [za9, h]
theorem wrap_succ {i n : Nat} (h : i < n) (hn : n ≤ 1000000) : wrap64 ((i : Int) + 1) = ((i + 1 : Nat) : Int) := by unfold wrap64; omega
theorem ord_len {ll : List Node} (hs : zak ll = true) : (nds (ordOf ll)).length ≤ ll.length := by rw [nds_length]; exact ord_le (store_of hs)
theorem vis_len {ll : List Node} (hs : zak ll = true) : (visOf ll).length ≤ ll.length := Nat.le_trans (aliveOf_le _) (ord_len hs)
theorem first2_k {k : Nat} (hk : 3 ≤ k) (a b : Int) : index_first.f k [a, b] = some (if a = 0 then b else a) := by
 obtain ⟨m, rfl⟩ : ∃ m, k = m + 3 := ⟨k - 3, by omega⟩
 by_cases ha : a = 0
 ·
  by_cases hb : b = 0
  ·
   subst ha hb; simp [index_first.f, index_first.l0, rd, wrap64]
  ·
   subst ha
   simp [index_first.f, index_first.l0, rd, wrap64, hb]
 ·
  simp [index_first.f, index_first.l0, rd, ha]
def runesOf (ll : List Node) : List Int := (visOf ll).map (·.f3)
theorem mem_vis {ll : List Node} (hs : zak ll = true) {x : Node} (h : x ∈ visOf ll) : x ∈ ll ∧ ¬ x.f3 = 0 := by
 unfold visOf zat at h
 rw [List.mem_filter] at h
 obtain ⟨h1, h2⟩ := h
 unfold nds at h1
 rw [List.mem_map] at h1
 obtain ⟨p, hp, rfl⟩ := h1
 exact ⟨ord_mem (store_of hs) hp, by simpa using h2⟩
theorem runesOf_len {ll : List Node} (hs : zak ll = true) : (runesOf ll).length ≤ ll.length := by unfold runesOf; rw [List.length_map]; exact vis_len hs
theorem runes_from (v : List Node) (hl : v.length ≤ 1000000) (e : Int) : ∀ (q k i : Nat), i + q = v.length → q < k → index_Runes.l0 k e ((v.take i).map (·.f3)) v (v.length : Int) (i : Int) = some (v.map (·.f3), e) := by
 intro q
 induction q with
 | zero =>
  intro k i hi hk
  obtain ⟨k, rfl⟩ : ∃ m, k = m + 1 := ⟨k - 1, by omega⟩
  simp only [index_Runes.l0]
  rw [if_neg (by omega), show i = v.length by omega, List.take_length]
 | succ q ih =>
  intro k i hi hk
  obtain ⟨k, rfl⟩ : ∃ m, k = m + 1 := ⟨k - 1, by omega⟩
  have hlt : i < v.length := by omega
  simp only [index_Runes.l0]
  rw [if_pos (by omega), if_pos (by omega), if_pos (by omega), rdN hlt, wrap_succ hlt hl, if_pos (by rw [List.length_map, List.length_take]; omega)]
  have hs : (v.take i).map (·.f3) ++ [v[i].f3] = (v.take (i + 1)).map (·.f3) := by rw [List.take_succ_eq_append_getElem hlt, List.map_append]; rfl
  rw [hs]
  exact ih k (i + 1) (by omega) (by omega)
/-- What keeps a node's dot, parent and time. -/
def Keeps (g : Node → Node) : Prop := ∀ x, (g x).f0 = x.f0 ∧ (g x).f1 = x.f1 ∧ (g x).f2 = x.f2
theorem keeps_lt {g : Node → Node} (h : Keeps g) (a b : Node) : nodeLt (g a) (g b) = nodeLt a b := by
 unfold nodeLt
 rw [(h a).1, (h a).2.2, (h b).1, (h b).2.2]
theorem insB_map {g : Node → Node} (h : Keeps g) (x : Node) : ∀ o, insB (g x) (o.map g) = (insB x o).map g
 | [] => rfl
 | y :: r => by
  rw [List.map_cons]
  unfold insB
  rw [keeps_lt h]
  split
  ·
   rw [insB_map h x r]; rfl
  ·
   rfl
theorem foldB_map {g : Node → Node} (h : Keeps g) : ∀ (f o : List Node), (f.map g).foldl (fun o x => insB x o) (o.map g) = (f.foldl (fun o x => insB x o) o).map g
 | [], o => rfl
 | x :: f, o => by
  rw [List.map_cons, List.foldl_cons, List.foldl_cons, insB_map h, foldB_map h f]
theorem kids_map {g : Node → Node} (h : Keeps g) (l : List Node) (d : Dot) : kids (l.map g) d = (kids l d).map g := by
 unfold kids
 rw [List.filter_map, show ((fun x : Node => decide (x.f1 = d)) ∘ g) = fun x => decide (x.f1 = d) from funext fun x => by show decide ((g x).f1 = d) = _; rw [(h x).2.1]]
 exact foldB_map h _ []
theorem belowN_map {g : Node → Node} (h : Keeps g) (l : List Node) : ∀ (n dep : Nat) (d : Dot), belowN (l.map g) n dep d = (belowN l n dep d).map fun p => (p.1, g p.2)
 | 0, _, _ => rfl
 | n + 1, dep, d => by
  unfold belowN
  rw [kids_map h, List.flatMap_map, List.map_flatMap]
  refine flatMap_same fun x _ => ?_
  rw [(h x).1, belowN_map h l n]
  rfl
theorem ord_map {g : Node → Node} (h : Keeps g) (l : List Node) : nds (ordOf (l.map g)) = (nds (ordOf l)).map g := by
 unfold ordOf belowOf nds
 rw [belowN_map h, List.length_map, List.map_map, List.map_map]
 rfl
def killD (d : Dot) (x : Node) : Node := if x.f0 = d then deadN x else x
theorem killD_keeps (d : Dot) : Keeps (killD d) := fun x => by
 unfold killD
 split
 ·
  exact ⟨rfl, rfl, rfl⟩
 ·
  exact ⟨rfl, rfl, rfl⟩
theorem killD_ok {d : Dot} {x : Node} (h : nodeOk x = true) : nodeOk (killD d x) = true := by
 unfold killD
 split
 ·
  unfold nodeOk at h ⊢
  have := of_decide_eq_true h
  exact decide_eq_true ⟨this.1, this.2.1, this.2.2.1, this.2.2.2.1, this.2.2.2.2.1, .inl rfl⟩
 ·
  exact h
theorem kill_store {l : List Node} (hs : zak l = true) (d : Dot) : zak (l.map (killD d)) = true := by
 unfold zak at hs ⊢
 rw [Bool.and_eq_true, List.all_eq_true] at hs ⊢
 refine ⟨fun x hx => ?_, ?_⟩
 ·
  rw [List.mem_map] at hx
  obtain ⟨y, hy, rfl⟩ := hx
  exact killD_ok (hs.1 y hy)
 ·
  rw [List.map_map, show ((fun x : Node => x.f0) ∘ killD d) = fun x => x.f0 from funext fun x => (killD_keeps d x).1]
  exact hs.2
theorem modify_kill {l : List Node} (hs : Store l) {k : Nat} {x : Node} (hk : l[k]? = some x) : l.modify k deadN = l.map (killD x.f0) := by
 apply List.ext_getElem?
 intro i
 rw [List.getElem?_modify, List.getElem?_map]
 by_cases e : k = i
 ·
  subst e
  rw [hk]
  show some (if k = k then deadN x else x) = some (killD x.f0 x)
  unfold killD
  simp
 ·
  cases hi : l[i]? with
  | none => rfl
  | some y =>
   show some (if k = i then deadN y else y) = some (killD x.f0 y)
   rw [if_neg e]
   unfold killD
   rw [if_neg fun h => e (inc_unique hs.inc hk hi h.symm)]
theorem ord_dots {l : List Node} (hs : zak l = true) {x y : Node} (hx : x ∈ nds (ordOf l)) (hy : y ∈ nds (ordOf l)) (e : x.f0 = y.f0) : x = y := by
 have hst := store_of hs
 unfold nds at hx hy
 rw [List.mem_map] at hx hy
 obtain ⟨p, hp, rfl⟩ := hx
 obtain ⟨q, hq, rfl⟩ := hy
 exact inc_eq hst.inc (ord_mem hst hp) (ord_mem hst hq) e
/-- The order around a visible node. -/
theorem order_at {l : List Node} (hs : zak l = true) {i : Nat} {x : Node} (hi : (visOf l)[i]? = some x) :
  ∃ L1 L2, nds (ordOf l) = L1 ++ x :: L2 ∧ visOf l = zat L1 ++ x :: zat L2 ∧ (zat L1).length = i ∧ (∀ y ∈ L1, y.f0 ≠ x.f0) ∧ (∀ y ∈ L2, y.f0 ≠ x.f0) ∧ ¬ x.f3 = 0 := by
 have hm := List.mem_of_getElem? hi
 have hx0 := (mem_vis hs hm).2
 have hxo : x ∈ nds (ordOf l) := by
  unfold visOf zat at hm
  exact (List.mem_filter.1 hm).1
 obtain ⟨L1, L2, hL⟩ := List.append_of_mem hxo
 have hnd : (nds (ordOf l)).Nodup := ord_nodup (store_of hs)
 have hv : visOf l = zat L1 ++ x :: zat L2 := by
  unfold visOf zat
  rw [hL, List.filter_append, List.filter_cons, if_pos (by simp [hx0])]
 have hvn : (visOf l).Nodup := hnd.filter _
 rw [hL] at hnd
 rw [List.nodup_append] at hnd
 have hne1 : ∀ y ∈ L1, y.f0 ≠ x.f0 := fun y hy e => by
  have := ord_dots hs (by rw [hL]; exact List.mem_append_left _ hy) hxo e
  subst this
  exact hnd.2.2 y hy y (List.mem_cons_self ..) rfl
 have hne2 : ∀ y ∈ L2, y.f0 ≠ x.f0 := fun y hy e => by
  have := ord_dots hs (by rw [hL]; exact List.mem_append_right _ (List.mem_cons_of_mem _ hy)) hxo e
  subst this
  exact (List.nodup_cons.1 hnd.2.1).1 hy
 refine ⟨L1, L2, hL, hv, ?_, hne1, hne2, hx0⟩
 have h2 : (visOf l)[(zat L1).length]? = some x := by rw [hv]; simp
 have hlt := (List.getElem?_eq_some_iff.1 h2).1
 exact (List.getElem?_inj hlt hvn).1 (by rw [h2, hi])
theorem dotLt_tot {a b : Dot} (h : ¬ dotLt a b = true) (hne : a ≠ b) : dotLt b a = true := by
 unfold dotLt at h ⊢
 rw [decide_eq_true_eq] at h ⊢
 have : ¬ (a.f0 = b.f0 ∧ a.f1 = b.f1) := fun e => hne (by cases a; cases b; simp at e; simp [e])
 omega
theorem dotLt_tr {a b c : Dot} (h : dotLt a b = true) (k : dotLt b c = true) : dotLt a c = true := by
 unfold dotLt at h k ⊢
 rw [decide_eq_true_eq] at h k ⊢
 omega
theorem dots_nodup {l : List Node} (hs : Store l) {L : List Node} (hL : L.Nodup) (hm : ∀ x ∈ L, x ∈ l) : (L.map (·.f0)).Nodup := by
 rw [List.nodup_iff_pairwise_ne, List.pairwise_map]
 refine List.Pairwise.imp_of_mem ?_ (List.nodup_iff_pairwise_ne.1 hL)
 intro a b ha hb hne e
 exact hne (inc_eq hs.inc (hm a ha) (hm b hb) e)
end
section
theorem at_bk (l : List Node) (d : Dot) : MapLaw.mget (atOf (bk l)) d = idxN l 0 d := by
 have hb : atOf (bk l) = (l.zipIdx.map fun p => (p.2, p.1)).foldr (fun p m => MapLaw.mset m p.2.f0 p.1) [] := by
  exact List.foldl_reverse
 rw [hb]
 clear hb
 generalize (0 : Nat) = n
 induction l generalizing n with
 | nil => rfl
 | cons x l ih =>
  rw [List.zipIdx_cons, List.map_cons, List.foldr_cons, MapLaw.mget_mset, ih, idxN]
/-- A node of an allowed list has no flaw just where it stands on the root, or on an older node. -/
theorem flaw_zero {l : List Node} (hok : ∀ x ∈ l, nodeOk x = true) (hinc : Inc l) {i : Nat} {x : Node} (hx : l[i]? = some x) :
  flawOf l (atOf (bk l)) i = 0 ↔ (dotRoot x.f1 = true ∨ ∃ p ∈ l, p.f0 = x.f1 ∧ p.f2 < x.f2) := by
 rw [flawOf_at hx]
 have hm := List.mem_of_getElem? hx
 have hi := (List.getElem?_eq_some_iff.1 hx).1
 rw [if_neg (by rw [hok x hm]; simp)]
 have hstep : 0 < i → ∃ hp : i - 1 < l.length, dotLt l[i - 1].f0 x.f0 = true := fun h0 => by
  have hp : i - 1 < l.length := by omega
  refine ⟨hp, ?_⟩
  have := List.pairwise_iff_getElem.1 hinc (i - 1) i hp hi (by omega)
  rwa [(List.getElem?_eq_some_iff.1 hx).2] at this
 by_cases h0 : 0 < i
 obtain ⟨hp, hlt⟩ := hstep h0
 simp only [List.getElem?_eq_getElem hp, hlt, h0, true_and, Bool.true_eq_false, if_false]
 clear hp hlt
 rotate_left
 simp only [h0, false_and, if_false]
 all_goals
  clear hstep h0
  by_cases hr : dotRoot x.f1 = true
  ·
   simp [hr]
  ·
   rw [if_neg hr, at_bk]
   cases hn : idxN l 0 x.f1 with
   | none =>
    simp only []
    constructor
    ·
     intro h; cases h
    ·
     rintro (h | ⟨p, hp, e, _⟩)
     ·
      exact absurd h hr
     ·
      exact absurd e (idxN_none hn p hp)
   | some k =>
    obtain ⟨p, hp, e⟩ := idxN_some hn
    simp only [Nat.sub_zero] at hp
    simp only [hp]
    constructor
    ·
     intro h
     refine .inr ⟨p, List.mem_of_getElem? hp, e, ?_⟩
     by_cases ht : x.f2 ≤ p.f2
     ·
      simp [ht] at h
     ·
      omega
    ·
     rintro (h | ⟨q, hq, e', ht⟩)
     ·
      exact absurd h hr
     ·
      obtain ⟨j, hj⟩ := List.getElem?_of_mem hq
      have := inc_unique hinc hj hp (e'.trans e.symm)
      subst this
      rw [hp] at hj; cases hj
      rw [if_neg (by simp; omega)]
theorem faults_none {l : List Node} (h : faultsOf l = []) : ∀ i, i < l.length → flawOf l (atOf (bk l)) i = 0 := by
 have : ∀ k, faultsUpto l (atOf (bk l)) k = [] → ∀ i, i < k → flawOf l (atOf (bk l)) i = 0 := by
  intro k
  induction k with
  | zero => intro _ i hi; omega
  | succ k ih =>
   intro hk i hi
   rw [faultsUpto_succ] at hk
   obtain ⟨h1, h2⟩ := List.append_eq_nil_iff.1 hk
   rcases Nat.lt_succ_iff_lt_or_eq.1 hi with hi | rfl
   ·
    exact ih h1 i hi
   ·
    by_cases hf : flawOf l (atOf (bk l)) i = 0
    ·
     exact hf
    ·
     rw [if_neg hf] at h2; cases h2
 exact this l.length h
theorem incB_adj : ∀ {ds : List Dot}, (∀ i a b, ds[i]? = some a → ds[i + 1]? = some b → dotLt a b = true) → incB ds = true
 | [], _ => rfl
 | [_], _ => rfl
 | a :: b :: r, h => by
  simp only [incB, Bool.and_eq_true]
  exact ⟨h 0 a b rfl rfl, incB_adj fun i x y hx hy => h (i + 1) x y (by simpa using hx) (by simpa using hy)⟩
theorem well_flaws {l : List Node} (h : faultsOf l = []) {i : Nat} {x : Node} (hx : l[i]? = some x) : nodeOk x = true ∧ ¬ (0 < i ∧ (match l[i - 1]? with | some p => dotLt p.f0 x.f0 | none => true) = false) := by
 have hz := faults_none h i (List.getElem?_eq_some_iff.1 hx).1
 rw [flawOf_at hx] at hz
 have h1 : nodeOk x = true := by
  cases hn : nodeOk x with
  | true => rfl
  | false => rw [if_pos hn] at hz; cases hz
 refine ⟨h1, fun hc => ?_⟩
 rw [if_neg (by rw [h1]; decide)] at hz
 cases hp : l[i - 1]? with
 | none =>
  simp only [hp] at hc
  exact absurd hc.2 (by decide)
 | some p =>
  simp only [hp] at hc hz
  rw [if_pos hc] at hz
  cases hz
theorem well_store {l : List Node} (h : faultsOf l = []) : zak l = true := by
 unfold zak
 rw [Bool.and_eq_true, List.all_eq_true]
 constructor
 ·
  intro x hx
  obtain ⟨i, hi⟩ := List.getElem?_of_mem hx
  exact (well_flaws h hi).1
 ·
  refine incB_adj fun i a b ha hb => ?_
  rw [List.getElem?_map, Option.map_eq_some_iff] at ha hb
  obtain ⟨x, hx, rfl⟩ := ha
  obtain ⟨y, hy, rfl⟩ := hb
  have h2 := (well_flaws h hy).2
  rw [Nat.add_sub_cancel, hx] at h2
  cases hd : dotLt x.f0 y.f0 with
  | true => rfl
  | false => exact absurd ⟨Nat.succ_pos i, hd⟩ h2
theorem faultsUpto_nil {l : List Node} {m : List (Dot × Nat)} : ∀ {k : Nat}, (∀ i, i < k → flawOf l m i = 0) → faultsUpto l m k = []
 | 0, _ => rfl
 | k + 1, h => by rw [faultsUpto_succ, faultsUpto_nil fun i hi => h i (by omega), if_pos (h k (by omega))]; rfl
theorem well_yes {l : List Node} (hl : l.length ≤ 1000000) (h : faultsOf l = []) : shape_Well.f l = some true := by
 unfold shape_Well.f shape_Faults.f
 rw [if_pos hl, h]
 rfl
theorem well_no {l : List Node} (hl : l.length ≤ 1000000) (h : ¬ faultsOf l = []) : shape_Well.f l = some false := by
 unfold shape_Well.f shape_Faults.f
 rw [if_pos hl]
 have : 0 < (faultsOf l).length := List.length_pos_iff.2 h
 simp only [Option.bind_some]
 rw [show (((faultsOf l).length : Int) == 0) = false from beq_eq_false_iff_ne.2 (by omega)]
end
section
def firstE : List Int → Int
 | [] => 0
 | e :: r => if e = 0 then firstE r else e
theorem rdI {l : List Int} {i : Nat} (h : i < l.length) : rd l (i : Int) = l[i] := by simp [rd, h]
theorem efirst_from (l : List Int) (hl : l.length ≤ 1000000) : ∀ (q k i : Nat), i + q = l.length → q < k → edit_first.l0 k l (l.length : Int) (i : Int) = some (firstE (l.drop i)) := by
 intro q
 induction q with
 | zero =>
  intro k i hi hk
  obtain ⟨k, rfl⟩ : ∃ m, k = m + 1 := ⟨k - 1, by omega⟩
  simp only [edit_first.l0]
  rw [if_neg (by omega), List.drop_of_length_le (by omega)]
  rfl
 | succ q ih =>
  intro k i hi hk
  obtain ⟨k, rfl⟩ : ∃ m, k = m + 1 := ⟨k - 1, by omega⟩
  have hlt : i < l.length := by omega
  simp only [edit_first.l0]
  rw [if_pos (by omega), if_pos (by omega), if_pos (by omega), rdI hlt, wrap_succ hlt hl, List.drop_eq_getElem_cons hlt]
  simp only [firstE]
  by_cases e : l[i] = 0
  ·
   rw [if_pos e, if_pos e]
   exact ih k (i + 1) (by omega) (by omega)
  ·
   rw [if_neg e, if_neg e]
theorem efirst_is (l : List Int) (hl : l.length ≤ 1000000) {k : Nat} (hk : l.length < k) : edit_first.f k l = some (firstE l) := efirst_from l hl l.length k 0 (by omega) hk
theorem ewhen_is (b : Bool) (n : Int) : edit_when.f b n = some (if b = true then n else 0) := by
 unfold edit_when.f
 cases b <;> rfl
/-- The error of an index and a number of runes from it on. -/
def spanE (l : List Node) (a n : Int) : Int := if faultsOf l = [] then (if a < 0 ∨ n < 0 ∨ a > ((visOf l).length : Int) ∨ n > ((visOf l).length : Int) - a then 3 else 0) else 2
theorem elen_is {l : List Node} (hl : l.length ≤ 1000000) (hs : zak l = true) : index_Len.f l = some (((visOf l).length : Int), 0) := by
 unfold index_Len.f
 rw [vis_is (by omega), if_pos hs]
 rfl
theorem span_is {l : List Node} (hl : l.length ≤ 1000000) (a n : Int) {k : Nat} (hk : 3 ≤ k) : edit_span.f k l a n = some (spanE l a n) := by
 unfold edit_span.f spanE
 by_cases h : faultsOf l = []
 ·
  have hs := well_store h
  have hv := vis_len hs
  rw [well_yes hl h, Option.bind_some, if_pos rfl, elen_is hl hs, Option.bind_some, if_pos h]
  have e3 : (edit_when.f true 3).bind (fun t => (edit_first.f k [(0 : Int), t]).bind fun u => some u) = some 3 := by
   rw [ewhen_is, Option.bind_some, efirst_is _ (by decide) (by show 2 < k; omega)]
   rfl
  by_cases h1 : a < 0
  ·
   rw [if_pos h1, if_pos (.inl h1)]
   exact e3
  ·
   rw [if_neg h1]
   by_cases h2 : n < 0
   ·
    rw [if_pos h2, if_pos (.inr (.inl h2))]
    exact e3
   ·
    rw [if_neg h2]
    by_cases h3 : a > ((visOf l).length : Int)
    ·
     rw [if_pos h3, if_pos (.inr (.inr (.inl h3)))]
     exact e3
    ·
     rw [if_neg h3]
     have hw : wrap64 (((visOf l).length : Int) - a) = ((visOf l).length : Int) - a := by unfold wrap64; omega
     dsimp only
     rw [hw, ewhen_is, Option.bind_some, efirst_is _ (by simp) (by show 2 < k; omega)]
     by_cases h4 : n > ((visOf l).length : Int) - a
     ·
      rw [if_pos (decide_eq_true h4), if_pos (show a < 0 ∨ n < 0 ∨ a > ((visOf l).length : Int) ∨ n > ((visOf l).length : Int) - a from .inr (.inr (.inr h4)))]
      rfl
     ·
      rw [if_neg (show ¬ decide (n > ((visOf l).length : Int) - a) = true from fun h => h4 (of_decide_eq_true h)), if_neg (show ¬ (a < 0 ∨ n < 0 ∨ a > ((visOf l).length : Int) ∨ n > ((visOf l).length : Int) - a) by omega)]
      rfl
 ·
  rw [well_no hl h, Option.bind_some, if_neg (by decide), if_neg h]
/-- The visible nodes from an index on. -/
def cutV (l : List Node) (a n : Int) : List Node := ((visOf l).take (a + n).toNat).drop a.toNat
def deadD (ds : List Dot) (x : Node) : Node := if x.f0 ∈ ds then deadN x else x
theorem deadD_dot (ds : List Dot) (x : Node) : (deadD ds x).f0 = x.f0 := by
 unfold deadD
 split <;> rfl
theorem killFrom_is {l : List Node} (hs : zak l = true) : ∀ (ds : List Dot) (o : List Node), zak o = true → o.map (·.f0) = l.map (·.f0) → (∀ d ∈ ds, d ∈ l.map (·.f0)) → killFrom (l.map (·.f0)) o ds = some (o.map (deadD ds))
 | [], o, _, _, _ => by
  unfold killFrom
  congr 1
  rw [show deadD [] = id from funext fun x => by unfold deadD; simp]
  simp
 | d :: ds, o, ho, hk, hd => by
  obtain ⟨x, hx, e⟩ := List.mem_map.1 (by rw [hk]; exact hd d (List.mem_cons_self ..) : d ∈ o.map (·.f0))
  subst e
  obtain ⟨i, hi⟩ := List.getElem?_of_mem hx
  obtain ⟨h1, h2⟩ := find_in ho hi
  rw [hk] at h1 h2
  unfold killFrom
  rw [if_pos h2, h1, modify_kill (store_of ho) hi, killFrom_is hs ds _ (kill_store ho _) (by rw [List.map_map, ← hk]; congr 1; funext y; exact (killD_keeps _ y).1) fun z hz => hd z (List.mem_cons_of_mem _ hz), List.map_map]
  congr 2
  funext y
  show deadD ds (killD x.f0 y) = deadD (x.f0 :: ds) y
  unfold deadD killD
  by_cases h3 : y.f0 = x.f0
  ·
   rw [if_pos h3, if_pos (show y.f0 ∈ x.f0 :: ds by rw [h3]; exact List.mem_cons_self ..)]
   split <;> rfl
  ·
   rw [if_neg h3]
   by_cases h4 : y.f0 ∈ ds
   ·
    rw [if_pos h4, if_pos (List.mem_cons_of_mem _ h4)]
   ·
    rw [if_neg h4, if_neg (by rw [List.mem_cons]; rintro (h | h); exact h3 h; exact h4 h)]
/-- What a deletion answers. -/
def delE (l : List Node) (a n : Int) : List Node × Int :=
 if spanE l a n ≠ 0 then ([], spanE l a n) else if n > 10000 then ([], 5) else ((l.filter fun x => decide (x.f0 ∈ (cutV l a n).map (·.f0))).map deadN, 0)
def edit_Delete.f (l0 : List Node) (a1 a2 : Int) : Option (List Node × Int) := if l0.length ≤ 400000 then some (delE l0 a1 a2) else none
theorem cut_sub (l : List Node) (a n : Int) : (cutV l a n).Sublist (visOf l) := (List.drop_sublist _ _).trans (List.take_sublist _ _)
theorem cut_dots {l : List Node} (hs : zak l = true) (a n : Int) : ∀ d ∈ (cutV l a n).map (·.f0), d ∈ l.map (·.f0) := by
 intro d hd
 obtain ⟨x, hx, rfl⟩ := List.mem_map.1 hd
 exact List.mem_map.2 ⟨x, (mem_vis hs ((cut_sub l a n).subset hx)).1, rfl⟩
theorem vis_nodup {l : List Node} (hs : zak l = true) : ((visOf l).map (·.f0)).Nodup := by
 refine dots_nodup (store_of hs) ?_ fun x hx => (mem_vis hs hx).1
 unfold visOf zat
 exact (ord_nodup (store_of hs)).sublist List.filter_sublist
theorem cut_nodup {l : List Node} (hs : zak l = true) (a n : Int) : ((cutV l a n).map (·.f0)).Nodup := (vis_nodup hs).sublist ((cut_sub l a n).map _)
theorem cut_ok {l : List Node} (hs : zak l = true) (a n : Int) : ((cutV l a n).map (·.f0)).all dotOk = true := by
 rw [List.all_eq_true]
 intro d hd
 obtain ⟨x, hx, rfl⟩ := List.mem_map.1 (cut_dots hs a n d hd)
 have := (store_of hs).ok x hx
 unfold nodeOk at this
 exact (of_decide_eq_true this).1
theorem kill_cut {l : List Node} (hl : l.length ≤ 1000000) (hs : zak l = true) (a n : Int) : store_Kill.f l ((cutV l a n).map (·.f0)) = some (l.map (deadD ((cutV l a n).map (·.f0))), 0) := by
 have h1 : (cutV l a n).length ≤ 1000000 := Nat.le_trans (cut_sub l a n).length_le (Nat.le_trans (vis_len hs) hl)
 unfold store_Kill.f
 rw [if_pos ⟨hl, by rw [List.length_map]; exact h1⟩, if_pos ⟨hs, cut_ok hs a n⟩, killFrom_is hs _ l hs rfl (cut_dots hs a n)]
 rfl
end
section
theorem rune_at {w wr : World} {A : Option Addr} {n : Nat} {xs : List Int} (h : Kd.C (Kd.int .i32) w A n xs) (hb : Below w.heap.size w wr) (k : Nat) (x : Int) (hk : xs[k]? = some x) :
  ∃ ad, A = some ad ∧ wr.cell? (ad.add k) = some (.int .i32 x) := by
 have hl := Kd.C_len h
 have hlt := (List.getElem?_eq_some_iff.1 hk).1
 obtain ⟨ad, e, h0⟩ := Kd.at_int h (k : Int) (by omega) (by omega)
 have hd : rd xs (k : Int) = x := by simp [rd, hk]
 rw [hd] at h0
 simp only [Int.toNat_natCast] at h0
 exact ⟨ad, e, zaf hb h0⟩
def idxR (p : Int → Bool) (l : List Int) : Int := match l.findIdx? p with | some i => (i : Int) | none => -1
theorem idxR_at {p : Int → Bool} {l : List Int} {k : Nat} {x : Int} (hk : l[k]? = some x) (hx : p x = true) (hno : ∀ j y, j < k → l[j]? = some y → p y = false) : idxR p l = k := by
 unfold idxR
 rw [List.findIdx?_eq_some_iff_getElem.2 ⟨(List.getElem?_eq_some_iff.1 hk).1, by rw [(List.getElem?_eq_some_iff.1 hk).2]; exact hx, fun j hj => by rw [hno j _ hj (List.getElem?_eq_getElem _)]; simp⟩]
theorem idxR_none {p : Int → Bool} {l : List Int} (hno : ∀ j y, j < l.length → l[j]? = some y → p y = false) : idxR p l = -1 := by
 unfold idxR
 rw [List.findIdx?_eq_none_iff.2 fun x hx => by
  obtain ⟨j, hj⟩ := List.getElem?_of_mem hx
  exact hno j x (List.getElem?_eq_some_iff.1 hj).1 hj]
theorem noR_step {p : Int → Bool} {l : List Int} {k : Nat} {x : Int} (hk : l[k]? = some x) (hx : p x = false) (hno : ∀ j y, j < k → l[j]? = some y → p y = false) : ∀ j y, j < k + 1 → l[j]? = some y → p y = false := by
 intro j y hj hy
 rcases Nat.lt_succ_iff_lt_or_eq.1 hj with h | h
 ·
  exact hno j y h hy
 ·
  subst h; rw [hk] at hy; cases hy; exact hx
set_option maxHeartbeats 400000 in
theorem IndexFuncRune.calls (p : Int → Bool) (fn : Nat) (A0 : Option Addr) (c0 : Nat) (l0 : List Int) (w : World) (hr0 : Kd.C (Kd.int .i32) w A0 l0.length l0) (hc0 : l0.length ≤ c0)
  (hcall : ∀ args W, (callFunc fn args).run Tryz.prog W = .ok (.enter fn args) W)
  (hp : ∀ x W, Calls Tryz.prog fn #[.int .i32 x] W fun e W' => e = .returned (.bool (p x)) ∧ Below W.heap.size W W') :
  Calls Tryz.prog 78 #[.slice A0 l0.length c0, .func (.func fn) #[] #[]] w fun e w' => e = .returned (.int .i64 (idxR p l0)) ∧ Below w.heap.size w w' := by
 have hm := Kd.C_max hr0
 have HR := za0.mk hr0
 have HP := za0.mk hp
 have HC := za0.mk hc0
 clear hr0 hp hc0
 go_enter Tryz.func78, Tryz.ntmps78
 go_wp2
 go_loopw [5, 8] (fun _ i wr => ∃ k : Nat, k ≤ l0.length ∧ i = .int .i64 k ∧ za0 (∀ j y, j < k → l0[j]? = some y → p y = false) ∧ za0 (Below w.heap.size w wr)) (fun _ i _ => l0.length - (intOf i).toNat)
 case atStart => exact ⟨0, Nat.zero_le _, rfl, ⟨fun j y hj => absurd hj (Nat.not_lt_zero _)⟩, ⟨Below.refl _ _⟩⟩
 case round =>
  obtain ⟨k, hk, rfl, hno, hb⟩ := hrel
  by_cases hlt : k < l0.length
  ·
   obtain ⟨x, hx⟩ : ∃ x, za0 (l0[k]? = some x) := ⟨_, ⟨List.getElem?_eq_getElem hlt⟩⟩
   obtain ⟨ad, e, h0⟩ := rune_at HR.out hb.out k x hx.out
   subst e
   cases hpx : p x with
   | true =>
    have HX := za0.mk hpx
    clear hpx
    go_wp2
    refine (HP.out x _).mono ?_
    rintro e W' ⟨rfl, hb2⟩
    rw [HX.out]
    go_wp2
    go_ret
    exact ⟨by rw [idxR_at hx.out HX.out hno.out]; rfl, below_then hb.out hb.out.size hb2⟩
   | false =>
    have HX := za0.mk hpx
    clear hpx
    go_wp2
    refine (HP.out x _).mono ?_
    rintro e W' ⟨rfl, hb2⟩
    rw [HX.out]
    go_wp2
    go_roundw
    case rel => exact ⟨k + 1, by omega, by go_num, ⟨noR_step hx.out HX.out hno.out⟩, ⟨below_then hb.out hb.out.size hb2⟩⟩
    case measure => simp [intOf]; omega
  ·
   go_wp2
   go_ret
   obtain rfl : k = l0.length := by omega
   exact ⟨by rw [idxR_none hno.out]; rfl, hb.out⟩
set_option maxHeartbeats 400000 in
theorem ContainsFuncRune.calls (p : Int → Bool) (fn : Nat) (A0 : Option Addr) (c0 : Nat) (l0 : List Int) (w : World) (hr0 : Kd.C (Kd.int .i32) w A0 l0.length l0) (hc0 : l0.length ≤ c0)
  (hcall : ∀ args W, (callFunc fn args).run Tryz.prog W = .ok (.enter fn args) W)
  (hp : ∀ x W, Calls Tryz.prog fn #[.int .i32 x] W fun e W' => e = .returned (.bool (p x)) ∧ Below W.heap.size W W') :
  Calls Tryz.prog 48 #[.slice A0 l0.length c0, .func (.func fn) #[] #[]] w fun e w' => e = .returned (.bool (l0.any p)) ∧ Below w.heap.size w w' := by
 have HI := za0.mk (IndexFuncRune.calls p fn A0 c0 l0 w hr0 hc0 hcall hp)
 clear hr0 hc0 hp hcall
 go_enter Tryz.func48, Tryz.ntmps48
 go_wp2_with fail
 refine HI.out.mono ?_
 rintro e W' ⟨rfl, hb⟩
 have hi : decide (idxR p l0 ≥ 0) = l0.any p := by
  unfold idxR
  cases h : l0.findIdx? p with
  | none => simp [List.findIdx?_eq_none_iff] at h; simp; exact h
  | some i => simp; exact ⟨_, List.getElem_mem (List.findIdx?_eq_some_iff_getElem.1 h).1, (List.findIdx?_eq_some_iff_getElem.1 h).2.1⟩
 have HI2 := za0.mk hi
 clear hi
 go_wp2
 go_ret
 exact ⟨by rw [← HI2.out]; rfl, hb⟩
end
end Go.Proofs.YtmbndijbpgobeaaGreat.PWalk
end
section
namespace Go.Proofs.YtmbndijbpgobeaaGreat.PWalk
open Go.RowKit Go.Proofs.YtmbndijbpgobeaaGreatW.PrintWords Go.Proofs.YtmbndijbpgobeaaGreatW.PrintLast Go.Proofs.YtmbndijbpgobeaaGreatW.PrintMore
attribute [local go_sem] max2_int max_two
set_option linter.unusedVariables false
set_option linter.unusedSimpArgs false
section
def index_Left.j0 : Nat → Int → List (S53) → Int → Option (Int × Int × Int)
 | 0, _, _, _ => none
 | k + 1, x1, x6, x7 => if x7 = 0 then (if x1 = 0 then (some (0, 0, 0)) else (if 0 ≤ (wrap64 (x1 - 1)) then (if (wrap64 (x1 - 1)) < (x6.length : Int) then (some ((za9 x6 (wrap64 (x1 - 1))).f0.f0, (za9 x6 (wrap64 (x1 - 1))).f0.f1, 0)) else (none)) else (none))) else (some (0, 0, x7))
def index_Left.f (k : Nat) (l0 : List (S53)) (a1 : Int) : Option (Int × Int × Int) := (index_visible.f l0).bind fun bt167 => (if a1 < 0 then ((index_when.f true 3).bind fun t171 => ((index_first.f k (([bt167.2, t171] : List Int))).bind fun t175 => (index_Left.j0 k a1 bt167.1 t175))) else ((index_when.f (decide (a1 > (bt167.1.length : Int))) 3).bind fun t176 => ((index_first.f k (([bt167.2, t176] : List Int))).bind fun t180 => (index_Left.j0 k a1 bt167.1 t180))))
set_option maxHeartbeats 8000000 in
set_option maxRecDepth 100000 in
theorem index_Left.calls (k : Nat) (A0 : Option Addr) (c0 : Nat) (l0 : List (S53)) (a1 : Int) (r1 : Int) (r2 : Int) (r3 : Int) (w : World) (hr0 : Kd.C k53 w A0 l0.length l0) (hc0 : l0.length ≤ c0) (h : index_Left.f k l0 a1 = some (r1, r2, r3)) :
  Calls Tryz.prog 81 #[.slice A0 l0.length c0, .int .i64 a1] w fun e w' => e = .returned (.tuple #[.agg #[.int .i64 r1, .int .i64 r2], .int .i64 r3]) ∧ Below w.heap.size w w' := by
 have hu25 := Tryz.underlying25
 have HR0 := za0.mk hr0
 have HC0 := za0.mk hc0
 clear hr0 hc0
 have HB := za0.mk (Below.refl w.heap.size w)
 have H : ((index_visible.f l0).bind fun bt167 => (if a1 < 0 then ((index_when.f true 3).bind fun t171 => ((index_first.f k (([bt167.2, t171] : List Int))).bind fun t175 => (index_Left.j0 k a1 bt167.1 t175))) else ((index_when.f (decide (a1 > (bt167.1.length : Int))) 3).bind fun t176 => ((index_first.f k (([bt167.2, t176] : List Int))).bind fun t180 => (index_Left.j0 k a1 bt167.1 t180))))) = some (r1, r2, r3) := h
 clear h
 replace H := Option.bind_eq_some_iff.mp H
 obtain ⟨⟨t167, t168⟩, A30, H⟩ := H
 replace H : (if a1 < 0 then ((index_when.f true 3).bind fun t171 => ((index_first.f k (([t168, t171] : List Int))).bind fun t175 => (index_Left.j0 k a1 t167 t175))) else ((index_when.f (decide (a1 > (t167.length : Int))) 3).bind fun t176 => ((index_first.f k (([t168, t176] : List Int))).bind fun t180 => (index_Left.j0 k a1 t167 t180)))) = some (r1, r2, r3) := H
 have A3 := za0.mk A30
 clear A30
 have HC4 := za0.mk H
 clear H
 go_enter Tryz.func81, Tryz.ntmps81
 go_upto_region 2 with (first | ((with_reducible refine zaq (N := 4) rfl ?_); (try (refine gate_guard (by rfl) ?_; dsimp only)); refine zao ?hg (N := 4) ?hd (cs := #[.int .i64 0, .int .i64 0]) (t := 25) ?hr ?_; (case hd => rfl); (case hg => rfl); (case hr => first | (go_simp; done) | (go_simp; rfl)); intro gb166 hg w5 hbox hb; have n0_ := za0.mk (zaa (by repeat (first | (with_reducible first | exact HB.out | apply za2 | apply za1 | apply za3) | exact HB.out)) hb); have n1_ := za0.mk (hbox); have n2_ := za0.mk ((by rw [hg]; exact (za8 (by repeat (first | (with_reducible first | exact HB.out | apply za2 | apply za1 | apply za3) | exact HB.out))) : w.heap.size ≤ gb166)); have n3_ := za0.mk ((by rw [hg]; exact (za8 (by repeat (first | (with_reducible first | exact HB.out | apply za2 | apply za1 | apply za3) | exact HB.out))) : w.heap.size ≤ gb166)); clear HB; have HB := n0_; have BK166 := n1_; have GW166 := n2_; have GE166 := n3_; clear n0_ n1_ n2_ n3_; clear hb hbox hg) | ((with_reducible refine zah (f := 64) rfl ?_); refine zar (some 10) rfl rfl Tryz.func64 (by kernel_rfl) rfl #[.slice A0 l0.length c0] rfl (by (try simp only [List.map_toArray, List.map_cons, List.map_nil]); first | done | rfl | (simp only [List.length_drop, List.length_take]; rfl)) ?_; (with_reducible refine (index_visible.calls _ _ l0 t167 t168 _ ?side1 ?side2 A3.out).mono ?_); (case side1 => repeat (first | exact (Kd.C_below HR0.out HB.out) | (with_reducible refine Kd.C_alloc ?_ _) | (with_reducible refine Kd.C_drewN ?_ _) | (with_reducible refine Kd.C_drew ?_))); (case side2 => exact HC0.out); rintro e w6 ⟨v169, rfl, ho0, hb⟩; refine ⟨_, rfl, ?_⟩; have n0_ := za0.mk (Kd.R_lower ho0 (za8 (by repeat (first | (with_reducible first | exact HB.out | apply za2 | apply za1 | apply za3 | refine zae ?_ GE166.out) | exact HB.out)))); have n1_ := za0.mk (blk_below (g := gb166) (o := .cells #[.int .i64 0, .int .i64 0] 25 (0, 0)) (by (with_reducible repeat (first | refine zaj ?_ _ | refine zai ?_ | refine zad ?_ _)); exact BK166.out) hb); have n2_ := za0.mk (zaa (by repeat (first | (with_reducible first | exact HB.out | apply za2 | apply za1 | apply za3 | refine zae ?_ GE166.out) | exact HB.out)) hb); clear BK166; clear HB; have HO170 := n0_; have BK166 := n1_; have HB := n2_; clear n0_ n1_ n2_; (try clear hb); (try clear hb2); (try clear hk); (try clear hi); (try clear ho0)))
 (try simp only [Act.put, List.setIfInBounds_toArray, List.set_cons_zero, List.set_cons_succ])
 go_cut [7] (fun v7 wc => ∃ (kq : Nat) (x7_3 : Int), v7 = .int .i64 x7_3 ∧ za0 (index_Left.j0 kq a1 t167 x7_3 = some (r1, r2, r3)) ∧ za0 (kq ≤ k) ∧ za0 (Kd.R k53 53 wc w.heap.size (fun _ => True) v169 t167) ∧ za0 (wc.heap[gb166]? = some (.cells #[.int .i64 0, .int .i64 0] 25 (0, 0))) ∧ za0 (Below w.heap.size w wc))
 case first =>
  have H := HC4.out
  clear HC4
  by_cases c7 : a1 < 0
  ·
   rw [if_pos c7] at H
   have c7b0 : decide (a1 < 0) = true := decide_eq_true c7
   clear c7
   (first | rw [c7b0] | (simp only [i64_w, i32_w]; rw [c7b0]) | rw [c7b1] | skip)
   replace H := Option.bind_eq_some_iff.mp H
   obtain ⟨t171, A80, H⟩ := H
   replace H : ((index_first.f k (([t168, t171] : List Int))).bind fun t175 => (index_Left.j0 k a1 t167 t175)) = some (r1, r2, r3) := H
   have A8 := za0.mk A80
   clear A80
   obtain ⟨y172, hy172⟩ : ∃ y_ : List Int, y_ = (([t168, t171] : List Int)) := ⟨_, rfl⟩
   replace H : ((index_first.f k y172).bind fun t175 => (index_Left.j0 k a1 t167 t175)) = some (r1, r2, r3) := by first | (rw [hy172]; with_reducible exact H) | (have H2_ := (Option.bind_some _ _).symm.trans H; rw [hy172]; with_reducible exact H2_) | (have H2_ := (Option.bind_some _ _).symm.trans H; with_reducible exact H2_) | with_reducible exact H | (rw [hy172]; exact H) | exact H
   have Ny172 := za0.mk hy172
   clear hy172
   replace H := Option.bind_eq_some_iff.mp H
   obtain ⟨t175, A90, H⟩ := H
   replace H : (index_Left.j0 k a1 t167 t175) = some (r1, r2, r3) := H
   have A9 := za0.mk A90
   clear A90
   have H' := za0.mk H
   clear H
   go_wp2_with (first | ((with_reducible refine zah (f := 66) rfl ?_); refine zar (some 22) rfl rfl Tryz.func66 (by kernel_rfl) rfl #[.bool true, .int .i64 3] rfl (by (try simp only [List.map_toArray, List.map_cons, List.map_nil]); first | done | rfl | (simp only [List.length_drop, List.length_take]; rfl)) ?_; (with_reducible refine (index_when.calls true 3 t171 _ A8.out).mono ?_); rintro e w' ⟨rfl, ⟨nd, rfl⟩⟩; refine ⟨_, rfl, ?_⟩) | ((with_reducible refine zaq (N := 23) rfl ?_); (try (refine gate_guard (by rfl) ?_; dsimp only)); refine Kd.R_lit (Kd.int .i64) _ 29 ?hg (N := 23) ?hd (xs := ([t168, t171] : List Int)) (inner := [.int .i64 t168, .int .i64 t171]) (ok := fun _ => True) (okp := fun _ => True) ?hr ?hp (fun _ hk => hk) trivial (Below.refl _ _) (Nat.le_refl _) (by simp) ?_; (case hd => rfl); (case hg => rfl); (case hr => first | (go_simp; done) | (go_simp; rfl)); (case hp => exact (Reps.one (show Kd.M (Kd.int .i64) _ _ _ t168 [.int .i64 t168] from rfl) (Reps.one (show Kd.M (Kd.int .i64) _ _ _ t171 [.int .i64 t171] from rfl) (Reps.none _ _)))); intro v173 w10 ho11 hb hg_ hnew_; clear hg_ hnew_; (first | rw [← Ny172.out] at ho11 | (simp only [Int.reduceToNat] at ho11; rw [← Ny172.out] at ho11)); have n0_ := za0.mk (Kd.R_below (by (with_reducible repeat (first | apply Kd.R_alloc | apply Kd.R_drewN | apply Kd.R_drew)); exact HO170.out) hb); have n1_ := za0.mk (Kd.R_lower ho11 (za8 (by repeat (first | (with_reducible first | exact HB.out | apply za2 | apply za1 | apply za3 | refine zae ?_ GE166.out) | exact HB.out)))); have n2_ := za0.mk (blk_below (g := gb166) (o := .cells #[.int .i64 0, .int .i64 0] 25 (0, 0)) (by (with_reducible repeat (first | refine zaj ?_ _ | refine zai ?_ | refine zad ?_ _)); exact BK166.out) hb); have n3_ := za0.mk (zaa (by repeat (first | (with_reducible first | exact HB.out | apply za2 | apply za1 | apply za3 | refine zae ?_ GE166.out) | exact HB.out)) hb); clear HO170; clear BK166; clear HB; have HO170 := n0_; have HO174 := n1_; have BK166 := n2_; have HB := n3_; clear n0_ n1_ n2_ n3_; clear hb ho11; obtain ⟨Ao12, co12, eo12⟩ := Kd.R_slice HO174.out; subst eo12) | ((with_reducible refine zah (f := 65) rfl ?_); refine zar (some 24) rfl rfl Tryz.func65 (by kernel_rfl) rfl #[.slice Ao12 y172.length co12] rfl (by (try simp only [List.map_toArray, List.map_cons, List.map_nil]); first | done | rfl | (simp only [List.length_drop, List.length_take]; rfl)) ?_; (with_reducible refine (index_first.calls k _ _ y172 t175 _ ?side1 ?side2 A9.out).mono ?_); (case side1 => repeat (first | exact (Kd.R_reads' HO174.out).2.2 | (with_reducible refine Kd.C_alloc ?_ _) | (with_reducible refine Kd.C_drewN ?_ _) | (with_reducible refine Kd.C_drew ?_))); (case side2 => exact (Kd.R_reads' HO174.out).2.1); rintro e w' ⟨rfl, ⟨nd, rfl⟩⟩; refine ⟨_, rfl, ?_⟩))
   go_meet
   case rel => exact ⟨_, (t175), (by first | rfl | (simp; done) | (simp [*]; done)), H', ⟨by first | omega | exact Nat.le_refl _⟩, ⟨by (with_reducible repeat (first | apply Kd.R_alloc | apply Kd.R_drewN | apply Kd.R_drew)); exact HO170.out⟩, ⟨by (with_reducible repeat (first | refine zaj ?_ _ | refine zai ?_ | refine zad ?_ _)); exact BK166.out⟩, ⟨by repeat (first | (with_reducible first | exact HB.out | apply za2 | apply za1 | apply za3 | refine zae ?_ GE166.out) | exact HB.out)⟩⟩
  ·
   rw [if_neg c7] at H
   have c7b0 : decide (a1 < 0) = false := decide_eq_false c7
   clear c7
   (first | rw [c7b0] | (simp only [i64_w, i32_w]; rw [c7b0]) | rw [c7b1] | skip)
   replace H := Option.bind_eq_some_iff.mp H
   obtain ⟨t176, A130, H⟩ := H
   replace H : ((index_first.f k (([t168, t176] : List Int))).bind fun t180 => (index_Left.j0 k a1 t167 t180)) = some (r1, r2, r3) := H
   have A13 := za0.mk A130
   clear A130
   obtain ⟨y177, hy177⟩ : ∃ y_ : List Int, y_ = (([t168, t176] : List Int)) := ⟨_, rfl⟩
   replace H : ((index_first.f k y177).bind fun t180 => (index_Left.j0 k a1 t167 t180)) = some (r1, r2, r3) := by first | (rw [hy177]; with_reducible exact H) | (have H2_ := (Option.bind_some _ _).symm.trans H; rw [hy177]; with_reducible exact H2_) | (have H2_ := (Option.bind_some _ _).symm.trans H; with_reducible exact H2_) | with_reducible exact H | (rw [hy177]; exact H) | exact H
   have Ny177 := za0.mk hy177
   clear hy177
   replace H := Option.bind_eq_some_iff.mp H
   obtain ⟨t180, A140, H⟩ := H
   replace H : (index_Left.j0 k a1 t167 t180) = some (r1, r2, r3) := H
   have A14 := za0.mk A140
   clear A140
   have H' := za0.mk H
   clear H
   obtain ⟨Ao15, co15, eo15⟩ := Kd.R_slice HO170.out
   subst eo15
   go_wp2_with (first | ((with_reducible refine zah (f := 66) rfl ?_); refine zar (some 22) rfl rfl Tryz.func66 (by kernel_rfl) rfl #[.bool (decide (a1 > (t167.length : Int))), .int .i64 3] rfl (by (try simp only [List.map_toArray, List.map_cons, List.map_nil]); first | done | rfl | (simp only [List.length_drop, List.length_take]; rfl)) ?_; (with_reducible refine (index_when.calls (decide (a1 > (t167.length : Int))) 3 t176 _ A13.out).mono ?_); rintro e w' ⟨rfl, ⟨nd, rfl⟩⟩; refine ⟨_, rfl, ?_⟩) | ((with_reducible refine zaq (N := 23) rfl ?_); (try (refine gate_guard (by rfl) ?_; dsimp only)); refine Kd.R_lit (Kd.int .i64) _ 29 ?hg (N := 23) ?hd (xs := ([t168, t176] : List Int)) (inner := [.int .i64 t168, .int .i64 t176]) (ok := fun _ => True) (okp := fun _ => True) ?hr ?hp (fun _ hk => hk) trivial (Below.refl _ _) (Nat.le_refl _) (by simp) ?_; (case hd => rfl); (case hg => rfl); (case hr => first | (go_simp; done) | (go_simp; rfl)); (case hp => exact (Reps.one (show Kd.M (Kd.int .i64) _ _ _ t168 [.int .i64 t168] from rfl) (Reps.one (show Kd.M (Kd.int .i64) _ _ _ t176 [.int .i64 t176] from rfl) (Reps.none _ _)))); intro v178 w16 ho17 hb hg_ hnew_; clear hg_ hnew_; (first | rw [← Ny177.out] at ho17 | (simp only [Int.reduceToNat] at ho17; rw [← Ny177.out] at ho17)); have n0_ := za0.mk (Kd.R_below (by (with_reducible repeat (first | apply Kd.R_alloc | apply Kd.R_drewN | apply Kd.R_drew)); exact HO170.out) hb); have n1_ := za0.mk (Kd.R_lower ho17 (za8 (by repeat (first | (with_reducible first | exact HB.out | apply za2 | apply za1 | apply za3 | refine zae ?_ GE166.out) | exact HB.out)))); have n2_ := za0.mk (blk_below (g := gb166) (o := .cells #[.int .i64 0, .int .i64 0] 25 (0, 0)) (by (with_reducible repeat (first | refine zaj ?_ _ | refine zai ?_ | refine zad ?_ _)); exact BK166.out) hb); have n3_ := za0.mk (zaa (by repeat (first | (with_reducible first | exact HB.out | apply za2 | apply za1 | apply za3 | refine zae ?_ GE166.out) | exact HB.out)) hb); clear HO170; clear BK166; clear HB; have HO170 := n0_; have HO179 := n1_; have BK166 := n2_; have HB := n3_; clear n0_ n1_ n2_ n3_; clear hb ho17; obtain ⟨Ao18, co18, eo18⟩ := Kd.R_slice HO179.out; subst eo18) | ((with_reducible refine zah (f := 65) rfl ?_); refine zar (some 24) rfl rfl Tryz.func65 (by kernel_rfl) rfl #[.slice Ao18 y177.length co18] rfl (by (try simp only [List.map_toArray, List.map_cons, List.map_nil]); first | done | rfl | (simp only [List.length_drop, List.length_take]; rfl)) ?_; (with_reducible refine (index_first.calls k _ _ y177 t180 _ ?side1 ?side2 A14.out).mono ?_); (case side1 => repeat (first | exact (Kd.R_reads' HO179.out).2.2 | (with_reducible refine Kd.C_alloc ?_ _) | (with_reducible refine Kd.C_drewN ?_ _) | (with_reducible refine Kd.C_drew ?_))); (case side2 => exact (Kd.R_reads' HO179.out).2.1); rintro e w' ⟨rfl, ⟨nd, rfl⟩⟩; refine ⟨_, rfl, ?_⟩))
   go_meet
   case rel => exact ⟨_, (t180), (by first | rfl | (simp; done) | (simp [*]; done)), H', ⟨by first | omega | exact Nat.le_refl _⟩, ⟨by (with_reducible repeat (first | apply Kd.R_alloc | apply Kd.R_drewN | apply Kd.R_drew)); exact HO170.out⟩, ⟨by (with_reducible repeat (first | refine zaj ?_ _ | refine zai ?_ | refine zad ?_ _)); exact BK166.out⟩, ⟨by repeat (first | (with_reducible first | exact HB.out | apply za2 | apply za1 | apply za3 | refine zae ?_ GE166.out) | exact HB.out)⟩⟩
 case rest =>
  clear HC4
  try clear p2
  try clear c6
  try clear c7
  try clear c7b0
  try clear c8
  obtain ⟨kq, x7_3, rfl, HA, HJ3, HO_6, BK166, HB⟩ := hcut
  cases kq with
  | zero => exact absurd HA.out (by simp [index_Left.j0])
  | succ kj3 =>
   have H := HA.out
   clear HA
   simp only [index_Left.j0] at H
   by_cases c19 : x7_3 = 0
   ·
    rw [if_pos c19] at H
    have c19b0 : (x7_3 == 0) = true := beq_iff_eq.mpr c19
    have c19b1 : (x7_3 != 0) = false := bne_eq_false_iff_eq.mpr c19
    clear c19
    by_cases c20 : a1 = 0
    ·
     rw [if_pos c20] at H
     have c20b0 : (a1 == 0) = true := beq_iff_eq.mpr c20
     have c20b1 : (a1 != 0) = false := bne_eq_false_iff_eq.mpr c20
     clear c20
     simp only [Option.some.injEq, Prod.mk.injEq] at H
     obtain ⟨rfl, rfl, rfl⟩ := H
     have hcz21_0 : wc.cell? ⟨gb166, 0, none⟩ = some (.int .i64 0) := (za4 BK166.out 0).trans rfl
     have hcz21_1 : wc.cell? ⟨gb166, 1, none⟩ = some (.int .i64 0) := (za4 BK166.out 1).trans rfl
     have hfz21_0 := za6 BK166.out 0
     have hfz21_1 := za6 BK166.out 1
     go_wp2
     refine bodyPost_ret (results_ct rfl _ _ gb166 25 #[.int .i64 0, .int .i64 0] (0, 0) _ rfl (by (with_reducible repeat (first | refine zaj ?_ _ | refine zai ?_ | refine zad ?_ _)); refine blk_put (cs := #[.int .i64 0, .int .i64 0]) ?_ 1 _ rfl; (with_reducible repeat (first | refine zaj ?_ _ | refine zai ?_ | refine zad ?_ _)); refine blk_put (cs := #[.int .i64 0, .int .i64 0]) ?_ 0 _ rfl; (with_reducible repeat (first | refine zaj ?_ _ | refine zai ?_ | refine zad ?_ _)); exact BK166.out) Tryz.underlying25 rfl (by kernel_rfl)) rfl ?_
     exact ⟨by first | rfl | (simp [zac, zab] <;> rfl) | (simp [*, zac, zab] <;> rfl), by repeat (first | (with_reducible first | exact HB.out | apply za2 | apply za1 | apply za3 | refine zae ?_ GE166.out) | exact HB.out)⟩
    ·
     rw [if_neg c20] at H
     have c20b0 : (a1 == 0) = false := beq_eq_false_iff_ne.mpr c20
     have c20b1 : (a1 != 0) = true := bne_iff_ne.mpr c20
     obtain ⟨ji22, hji22⟩ : ∃ j_ : Int, (wrap64 (a1 - 1)) = j_ := ⟨_, rfl⟩
     replace H : (if 0 ≤ (ji22) then (if (ji22) < (t167.length : Int) then (some ((za9 t167 (ji22)).f0.f0, (za9 t167 (ji22)).f0.f1, 0)) else (none)) else (none)) = some (r1, r2, r3) := by first | (rw [hji22] at H; exact H) | (simp only [hji22] at H ⊢; exact H)
     have hji22w : (IntKind.i64.wrap (a1 - 1)) = ji22 := (i64_w _).trans hji22
     by_cases c23 : 0 ≤ (ji22)
     ·
      rw [if_pos c23] at H
      have c23b0 : decide (0 ≤ (ji22)) = true := decide_eq_true c23
      clear c23
      by_cases c24 : (ji22) < (t167.length : Int)
      ·
       rw [if_pos c24] at H
       have c24b0 : decide ((ji22) < (t167.length : Int)) = true := decide_eq_true c24
       clear c24
       simp only [Option.some.injEq, Prod.mk.injEq] at H
       obtain ⟨rfl, rfl, rfl⟩ := H
       obtain ⟨Ao25, co25, eo25⟩ := Kd.R_slice HO_6.out
       subst eo25
       have p181 : 0 ≤ ((ji22) : Int) := of_decide_eq_true (by first | (with_reducible assumption) | assumption)
       have q181 : (ji22) < (t167.length : Int) := of_decide_eq_true (by first | (with_reducible assumption) | assumption)
       obtain ⟨ad181, e181, hx181_0, hx181_1, hx181_2, hx181_3, hx181_4, hx181_5⟩ := at_T53 (Kd.R_reads' HO_6.out).2.2 (ji22) p181 q181
       cases e181
       replace p181 := eq_true p181
       replace q181 := eq_true q181
       have hcz26_0 : wc.cell? ⟨gb166, 0, none⟩ = some (.int .i64 0) := (za4 BK166.out 0).trans rfl
       have hcz26_1 : wc.cell? ⟨gb166, 1, none⟩ = some (.int .i64 0) := (za4 BK166.out 1).trans rfl
       have hfz26_0 := za6 BK166.out 0
       have hfz26_1 := za6 BK166.out 1
       go_wp2
       refine bodyPost_ret (results_ct rfl _ _ gb166 25 #[.int .i64 ((za9 t167 (ji22)).f0.f0), .int .i64 ((za9 t167 (ji22)).f0.f1)] (0, 0) _ rfl (by (with_reducible repeat (first | refine zaj ?_ _ | refine zai ?_ | refine zad ?_ _)); refine blk_put (cs := #[.int .i64 ((za9 t167 (ji22)).f0.f0), .int .i64 0]) ?_ 1 _ rfl; (with_reducible repeat (first | refine zaj ?_ _ | refine zai ?_ | refine zad ?_ _)); refine blk_put (cs := #[.int .i64 0, .int .i64 0]) ?_ 0 _ rfl; (with_reducible repeat (first | refine zaj ?_ _ | refine zai ?_ | refine zad ?_ _)); exact BK166.out) Tryz.underlying25 rfl (by kernel_rfl)) rfl ?_
       exact ⟨by first | rfl | (simp [zac, zab] <;> rfl) | (simp only [← hji22]; first | rfl | (simp [zac, zab] <;> rfl)) | (simp [*, zac, zab] <;> rfl), by repeat (first | (with_reducible first | exact HB.out | apply za2 | apply za1 | apply za3 | refine zae ?_ GE166.out) | exact HB.out)⟩
      ·
       rw [if_neg c24] at H
       exact absurd H (by simp)
     ·
      rw [if_neg c23] at H
      exact absurd H (by simp)
   ·
    rw [if_neg c19] at H
    have c19b0 : (x7_3 == 0) = false := beq_eq_false_iff_ne.mpr c19
    have c19b1 : (x7_3 != 0) = true := bne_iff_ne.mpr c19
    simp only [Option.some.injEq, Prod.mk.injEq] at H
    obtain ⟨rfl, rfl, rfl⟩ := H
    have hcz27_0 : wc.cell? ⟨gb166, 0, none⟩ = some (.int .i64 0) := (za4 BK166.out 0).trans rfl
    have hcz27_1 : wc.cell? ⟨gb166, 1, none⟩ = some (.int .i64 0) := (za4 BK166.out 1).trans rfl
    have hfz27_0 := za6 BK166.out 0
    have hfz27_1 := za6 BK166.out 1
    go_wp2
    refine bodyPost_ret (results_ct rfl _ _ gb166 25 #[.int .i64 0, .int .i64 0] (0, 0) _ rfl (by (with_reducible repeat (first | refine zaj ?_ _ | refine zai ?_ | refine zad ?_ _)); refine blk_put (cs := #[.int .i64 0, .int .i64 0]) ?_ 1 _ rfl; (with_reducible repeat (first | refine zaj ?_ _ | refine zai ?_ | refine zad ?_ _)); refine blk_put (cs := #[.int .i64 0, .int .i64 0]) ?_ 0 _ rfl; (with_reducible repeat (first | refine zaj ?_ _ | refine zai ?_ | refine zad ?_ _)); exact BK166.out) Tryz.underlying25 rfl (by kernel_rfl)) rfl ?_
    exact ⟨by first | rfl | (simp [zac, zab] <;> rfl) | (simp [*, zac, zab] <;> rfl), by repeat (first | (with_reducible first | exact HB.out | apply za2 | apply za1 | apply za3 | refine zae ?_ GE166.out) | exact HB.out)⟩
def join_Valid.f (l0 : List (S53)) : Option (Bool) := (store_Valid.f l0).bind fun t190 => (some t190)
set_option maxHeartbeats 8000000 in
set_option maxRecDepth 100000 in
theorem join_Valid.calls (A0 : Option Addr) (c0 : Nat) (l0 : List (S53)) (r : Bool) (w : World) (hr0 : Kd.C k53 w A0 l0.length l0) (hc0 : l0.length ≤ c0) (h : join_Valid.f l0 = some r) :
  Calls Tryz.prog 84 #[.slice A0 l0.length c0] w fun e w' => e = .returned (.bool r) ∧ Below w.heap.size w w' := by
 have HR0 := za0.mk hr0
 have HC0 := za0.mk hc0
 clear hr0 hc0
 have HB := za0.mk (Below.refl w.heap.size w)
 have H : ((store_Valid.f l0).bind fun t190 => (some t190)) = some r := h
 clear h
 replace H := Option.bind_eq_some_iff.mp H
 obtain ⟨t190, A20, H⟩ := H
 replace H : (some t190) = some r := H
 have A2 := za0.mk A20
 clear A20
 obtain rfl := Option.some.inj H
 go_enter Tryz.func84, Tryz.ntmps84
 go_wp2_with (first | ((with_reducible refine zah (f := 67) rfl ?_); refine zar (some 4) rfl rfl Tryz.func67 (by kernel_rfl) rfl #[.slice A0 l0.length c0] rfl (by (try simp only [List.map_toArray, List.map_cons, List.map_nil]); first | done | rfl | (simp only [List.length_drop, List.length_take]; rfl)) ?_; (with_reducible refine (store_Valid.calls _ _ l0 t190 _ ?side1 ?side2 A2.out).mono ?_); (case side1 => repeat (first | exact HR0.out | (with_reducible refine Kd.C_alloc ?_ _) | (with_reducible refine Kd.C_drewN ?_ _) | (with_reducible refine Kd.C_drew ?_))); (case side2 => exact HC0.out); rintro e w3 ⟨rfl, hb⟩; refine ⟨_, rfl, ?_⟩; have n0_ := za0.mk (zaa (by repeat (first | (with_reducible first | exact HB.out | apply za2 | apply za1 | apply za3) | exact HB.out)) hb); clear HB; have HB := n0_; clear n0_; (try clear hb); (try clear hb2); (try clear hk); (try clear hi)))
 go_ret
 exact ⟨by first | rfl | (simp [zac, zab] <;> rfl) | (simp [*, zac, zab] <;> rfl), by repeat (first | (with_reducible first | exact HB.out | apply za2 | apply za1 | apply za3) | exact HB.out)⟩
end
end Go.Proofs.YtmbndijbpgobeaaGreat.PWalk
end
section
namespace Go.Proofs.YtmbndijbpgobeaaGreat.PWalk
open Go.RowKit Go.Proofs.YtmbndijbpgobeaaGreatW.PrintWords Go.Proofs.YtmbndijbpgobeaaGreatW.PrintLast Go.Proofs.YtmbndijbpgobeaaGreatW.PrintMore
set_option linter.unusedVariables false
set_option linter.unusedSimpArgs false
open Go.Shelf
attribute [local go_sem] Oper.semAt_some
section
/-- The greatest time. -/
def lastOf (l : List Node) : Int := l.foldl (fun t x => mx t x.f2) 0
theorem time_from (l : List Node) (hl : l.length ≤ 1000000) : ∀ (q k i : Nat) (t : Int), i + q = l.length → q < k → store_Time.l0 k t l (l.length : Int) (i : Int) = some ((l.drop i).foldl (fun t x => mx t x.f2) t, 0) := by
 intro q
 induction q with
 | zero =>
  intro k i t hi hk
  obtain ⟨k, rfl⟩ : ∃ m, k = m + 1 := ⟨k - 1, by omega⟩
  simp only [store_Time.l0]
  rw [if_neg (by omega), List.drop_of_length_le (by omega)]
  rfl
 | succ q ih =>
  intro k i t hi hk
  obtain ⟨k, rfl⟩ : ∃ m, k = m + 1 := ⟨k - 1, by omega⟩
  have hlt : i < l.length := by omega
  simp only [store_Time.l0]
  rw [if_pos (by omega), if_pos (by omega), if_pos (by omega), rdN hlt, wrap_succ hlt hl, List.drop_eq_getElem_cons hlt, List.foldl_cons]
  exact ih k (i + 1) _ (by omega) (by omega)
theorem latest_is {l : List Node} (hl : l.length ≤ 1000000) {k : Nat} (hk : l.length < k) : edit_Latest.f k l = some (if zak l = true then lastOf l else 0) := by
 unfold edit_Latest.f store_Time.f store_Valid.f
 rw [if_pos hl]
 cases h : zak l with
 | true =>
  simp only [Option.bind_some, if_true]
  have := time_from l hl l.length k 0 0 (by omega) hk
  rw [show ((0 : Nat) : Int) = 0 from rfl] at this
  rw [this]
  rfl
 | false => rfl
/-- The parent of what is inserted at an index. -/
def leftE (l : List Node) (a : Int) : Dot := if a = 0 then ⟨0, 0⟩ else ((visOf l)[(a - 1).toNat]?.map (·.f0)).getD ⟨0, 0⟩
theorem left_is {l : List Node} (hl : l.length ≤ 1000000) (hs : zak l = true) {a : Int} (h0 : 0 ≤ a) (h1 : a ≤ ((visOf l).length : Int)) {k : Nat} (hk : 3 ≤ k) : index_Left.f k l a = some ((leftE l a).f0, (leftE l a).f1, 0) := by
 obtain ⟨k, rfl⟩ : ∃ m, k = m + 1 := ⟨k - 1, by omega⟩
 have hv := vis_len hs
 unfold index_Left.f leftE
 rw [vis_is hl, if_pos hs, Option.bind_some, if_neg (by omega), when_is, Option.bind_some]
 dsimp only
 rw [first2_k (by omega), if_neg (show ¬ decide (a > ((visOf l).length : Int)) = true by simpa using h1), Option.bind_some]
 simp only [index_Left.j0, if_true]
 by_cases h : a = 0
 ·
  rw [if_pos h, if_pos h]
 ·
  rw [if_neg h, if_neg h]
  obtain ⟨i, hi⟩ : ∃ i : Nat, a - 1 = (i : Int) := ⟨(a - 1).toNat, by omega⟩
  have hw : wrap64 (a - 1) = (i : Int) := by rw [hi]; unfold wrap64; omega
  have hlt : i < (visOf l).length := by omega
  rw [hw, if_pos (by omega), if_pos (by omega), rdN hlt, hi, Int.toNat_natCast, List.getElem?_eq_getElem hlt]
  rfl
def parE (d p : Dot) : Nat → Dot
 | 0 => p
 | j + 1 => ⟨d.f0, d.f1 + (j : Int)⟩
def nodeE (d p : Dot) (last : Int) (rs : List Int) (i : Nat) : Node := ⟨⟨d.f0, d.f1 + (i : Int)⟩, parE d p i, last + 1 + (i : Int), rs.getD i 0⟩
/-- The nodes of runes that are inserted. -/
def chainE (d p : Dot) (last : Int) (rs : List Int) : List Node := (List.range rs.length).map (nodeE d p last rs)
/-- Whether one of the next dots is taken. -/
def busyE (l : List Node) (d : Dot) (m : Nat) : Bool := (List.range m).any fun i => decide ((⟨d.f0, d.f1 + (i : Int)⟩ : Dot) ∈ l.map (·.f0))
theorem busy_yes {l : List Node} {d : Dot} {m i : Nat} (hi : i < m) (h : (⟨d.f0, d.f1 + (i : Int)⟩ : Dot) ∈ l.map (·.f0)) : busyE l d m = true := by
 unfold busyE
 rw [List.any_eq_true]
 exact ⟨i, List.mem_range.2 hi, decide_eq_true h⟩
theorem busy_no {l : List Node} {d : Dot} {m : Nat} (h : ∀ i, i < m → (⟨d.f0, d.f1 + (i : Int)⟩ : Dot) ∉ l.map (·.f0)) : busyE l d m = false := by
 unfold busyE
 rw [List.any_eq_false]
 intro i hi
 rw [decide_eq_true_eq]
 exact h i (List.mem_range.1 hi)
def chainR (l : List Node) (d : Dot) (a : Int) (rs : List Int) : List Node × Int := if busyE l d rs.length = true then ([], 11) else (chainE d (leftE l a) (lastOf l) rs, 0)
end
section
theorem chainCmp_call (x : Node) (d : Dot) (w : World) : Calls Tryz.prog 83 #[vNode x, vDot d] w fun e w' => e = .returned (.int .i64 (zas x.f0 d)) ∧ Below w.heap.size w w' := by
 have hB : ((w.alloc (.cells #[.int .i64 x.f0.f0, .int .i64 x.f0.f1, .int .i64 x.f1.f0, .int .i64 x.f1.f1, .int .i64 x.f2, .int .i32 x.f3] 53 (0, 0))).alloc (.cells #[.int .i64 d.f0, .int .i64 d.f1] 25 (0, 0))).heap[w.heap.size + 1]? = some (.cells #[.int .i64 d.f0, .int .i64 d.f1] 25 (0, 0)) := by
  have := zal (w.alloc (.cells #[.int .i64 x.f0.f0, .int .i64 x.f0.f1, .int .i64 x.f1.f0, .int .i64 x.f1.f1, .int .i64 x.f2, .int .i32 x.f3] 53 (0, 0))) (.cells #[.int .i64 d.f0, .int .i64 d.f1] 25 (0, 0))
  rwa [show (w.alloc (.cells #[.int .i64 x.f0.f0, .int .i64 x.f0.f1, .int .i64 x.f1.f0, .int .i64 x.f1.f1, .int .i64 x.f2, .int .i32 x.f3] 53 (0, 0))).heap.size = w.heap.size + 1 by simp] at this
 have hA : ((w.alloc (.cells #[.int .i64 x.f0.f0, .int .i64 x.f0.f1, .int .i64 x.f1.f0, .int .i64 x.f1.f1, .int .i64 x.f2, .int .i32 x.f3] 53 (0, 0))).alloc (.cells #[.int .i64 d.f0, .int .i64 d.f1] 25 (0, 0))).heap[w.heap.size]? = some (.cells #[.int .i64 x.f0.f0, .int .i64 x.f0.f1, .int .i64 x.f1.f0, .int .i64 x.f1.f1, .int .i64 x.f2, .int .i32 x.f3] 53 (0, 0)) :=
  za7 (zal w (.cells #[.int .i64 x.f0.f0, .int .i64 x.f0.f1, .int .i64 x.f1.f0, .int .i64 x.f1.f1, .int .i64 x.f2, .int .i32 x.f3] 53 (0, 0))) (Gr.alloc _ _).below
 have HB := za0.mk (za2 (za2 (Below.refl _ w) (.cells #[.int .i64 x.f0.f0, .int .i64 x.f0.f1, .int .i64 x.f1.f0, .int .i64 x.f1.f1, .int .i64 x.f2, .int .i32 x.f3] 53 (0, 0))) (.cells #[.int .i64 d.f0, .int .i64 d.f1] 25 (0, 0)))
 have a0 := (za4 hA 0).trans (show _ = some (Value.int .i64 x.f0.f0) from rfl)
 have a1 := (za4 hA 1).trans (show _ = some (Value.int .i64 x.f0.f1) from rfl)
 have b0 := (za4 hB 0).trans (show _ = some (Value.int .i64 d.f0) from rfl)
 have b1 := (za4 hB 1).trans (show _ = some (Value.int .i64 d.f1) from rfl)
 clear hA hB
 go_enter Tryz.func83, Tryz.ntmps83
 go_wp2_with fail
 refine (dotCmp_call x.f0 d _).mono ?_
 rintro e W3 ⟨rfl, hd⟩
 have hd := hd.below
 go_wp2
 go_ret
 exact ⟨rfl, za5 HB.out hd⟩
def cbrInv (w : World) (B n c : Nat) (ad : Addr) (d : Dot) (i j h : Nat) (k : Node) (z12 z13 z14 z15 z16 z17 z18 z19 z20 z21 z22 z23 u24 u25 u26 u27 u28 u29 u30 u31 u32 u33 u34 : Value) (L : Array Bool) (ac : Act) (V : World) : Prop := ∃ (l0 l1 l2 l3 l4 l5 l6 l7 : Bool), L = #[l0, l1, l2, l3, l4, l5, l6, l7] ∧ ac = { tmps := #[.slice (some ad) n c, vDot d, .func (.func 83) #[] #[], undef, .pointer (some ⟨B, 0, none⟩), undef, .int .i64 0, .bool false, .int .i64 n, .int .i64 i, .int .i64 j, .int .i64 h, z12, z13, z14, z15, z16, z17, z18, z19, z20, z21, z22, z23, selv l0 (.func (.func 83) #[] #[]) (u24), selv l1 (.slice (some ad) n c) (u25), selv l2 (.int .i64 h) (u26), selv l3 (.pointer (some (ad.add (h * 6)))) (u27), selv l4 (vNode k) (u28), selv l5 (vDot d) (u29), selv l6 (.int .i64 (zas k.f0 d)) (u30), selv l7 (.bool (decide (zas k.f0 d < 0))) (u31), u32, u33, u34, undef, undef, undef, undef, undef, undef, undef, undef, undef, undef, undef, undef, undef, undef], defers := [] } ∧ za0 (Bs w d V)
def cbtInv (w : World) (B n c : Nat) (ad : Addr) (d : Dot) (q : Nat) (k : Node) (y11 y12 y13 y14 y15 y16 y17 y18 y19 y20 y21 y22 y23 y24 y25 y26 y27 y28 y29 y30 y31 y32 y33 y34 : Value) (L : Array Bool) (ac : Act) (V : World) : Prop := ∃ (l0 l1 l2 l3 l4 l5 l6 l7 l8 l9 l10 l11 l12 l13 l14 l15 : Bool), L = #[l0, l1, l2, l3, l4, l5, l6, l7, l8, l9, l10, l11, l12, l13, l14, l15] ∧ ac = { tmps := #[.slice (some ad) n c, vDot d, .func (.func 83) #[] #[], undef, .pointer (some ⟨B, 0, none⟩), undef, selv l14 (.int .i64 q) (.int .i64 0), selv l15 (.bool (zas k.f0 d == 0)) (.bool false), .int .i64 n, .int .i64 q, .int .i64 q, y11, y12, y13, y14, y15, y16, y17, y18, y19, y20, y21, y22, y23, y24, y25, y26, y27, y28, y29, y30, y31, y32, y33, y34, sel l0 (.int .i64 q), sel l1 (.int .i64 q), sel l2 (.int .i64 n), sel l3 (.bool true), sel l4 (.bool true), sel l5 (.func (.func 83) #[] #[]), sel l6 (.slice (some ad) n c), sel l7 (.int .i64 q), sel l8 (.pointer (some (ad.add (q * 6)))), sel l9 (vNode k), sel l10 (vDot d), sel l11 (.int .i64 (zas k.f0 d)), sel l12 (.bool (zas k.f0 d == 0)), sel l13 (.bool (zas k.f0 d == 0))], defers := [] } ∧ za0 (Bs w d V)
def cbfInv (w : World) (A : Option Addr) (B n c : Nat) (d : Dot) (y11 y12 y13 y14 y15 y16 y17 y18 y19 y20 y21 y22 y23 y24 y25 y26 y27 y28 y29 y30 y31 y32 y33 y34 : Value) (L : Array Bool) (ac : Act) (V : World) : Prop := ∃ (l0 l1 l2 l3 l4 l5 l6 l7 l8 l9 l10 l11 l12 l13 l14 l15 : Bool), L = #[l0, l1, l2, l3, l4, l5, l6, l7, l8, l9, l10, l11, l12, l13, l14, l15] ∧ ac = { tmps := #[.slice A n c, vDot d, .func (.func 83) #[] #[], undef, .pointer (some ⟨B, 0, none⟩), undef, selv l14 (.int .i64 n) (.int .i64 0), selv l15 (.bool false) (.bool false), .int .i64 n, .int .i64 n, .int .i64 n, y11, y12, y13, y14, y15, y16, y17, y18, y19, y20, y21, y22, y23, y24, y25, y26, y27, y28, y29, y30, y31, y32, y33, y34, sel l0 (.int .i64 n), sel l1 (.int .i64 n), sel l2 (.int .i64 n), sel l3 (.bool false), sel l4 (.bool false), sel l5 (undef), sel l6 (undef), sel l7 (undef), sel l8 (undef), sel l9 (undef), sel l10 (undef), sel l11 (undef), sel l12 (undef), sel l13 (.bool false)], defers := [] } ∧ za0 (Bs w d V)
set_option maxHeartbeats 2000000 in
set_option maxRecDepth 100000 in
theorem bsearchS_call (ll : List Node) (A : Option Addr) (n c : Nat) (d : Dot) (w : World) (ks : List Dot) (hks : ll.map (·.f0) = ks) (hs : incB ks = true) (hl : ll.length = n) (hsm : n ≤ 1000000) (he : Kd.C k53 w A n ll) :
  Calls Tryz.prog 82 #[.slice A n c, vDot d, .func (.func 83) #[] #[]] w fun e w' => e = .returned (.tuple #[.int .i64 (posK ks d), .bool (hasK ks d)]) ∧ Below w.heap.size w w' := by
 have HE := za0.mk he
 have HS := za0.mk hs
 have hn := hsm
 have hkl : ks.length = n := by rw [← hks, List.length_map, hl]
 have HKL := za0.mk hkl
 have HQN : za0 (posK ks d ≤ n) := ⟨by rw [← hkl]; exact posK_le ks d⟩
 have HG : za0 (∀ h, h < n → ∃ k : Node, ks[h]? = some k.f0 ∧ ll[h]? = some k) := ⟨fun h hh => by
  obtain ⟨k, hk⟩ : ∃ k, ll[h]? = some k := ⟨_, List.getElem?_eq_getElem (by omega)⟩
  exact ⟨k, by rw [← hks, List.getElem?_map, hk]; rfl, hk⟩⟩
 clear he hs hks hl hkl hsm
 obtain ⟨q, HQ⟩ : ∃ q, za0 (posK ks d = q) := ⟨_, ⟨rfl⟩⟩
 obtain ⟨hf, HHF⟩ : ∃ hf, za0 (hasK ks d = hf) := ⟨_, ⟨rfl⟩⟩
 rw [HQ.out, HHF.out]
 rw [HQ.out] at HQN
 have HB0 : za0 (Bs w d (w.alloc (.cells #[.int .i64 d.f0, .int .i64 d.f1] 25 (0, 0)))) := ⟨(Gr.alloc w _).below, zal _ _⟩
 go_enter Tryz.func82, Tryz.ntmps82
 go_wp2
 go_loopw [9, 10] (fun i j wr => ∃ i' j' : Nat, i' ≤ q ∧ q ≤ j' ∧ j' ≤ n ∧ i = .int .i64 i' ∧ j = .int .i64 j' ∧ za0 (Bs w d wr)) (fun i j _ => (intOf j - intOf i).toNat)
 case atStart => exact ⟨0, n, Nat.zero_le _, HQN.out, Nat.le_refl _, rfl, rfl, HB0⟩
 case round =>
  obtain ⟨i, j, hi, hj, hjn, rfl, rfl, HB⟩ := hrel
  clear HB0
  by_cases hlt : i < j
  ·
   have hlb : decide ((i : Int) < (j : Int)) = true := decide_eq_true (by omega)
   obtain ⟨h, Hh⟩ : ∃ h : Nat, h = (i + j) / 2 := ⟨_, rfl⟩
   have hm : ((i : Int) + (j : Int)) / 2 = (h : Int) := by omega
   have HH : za0 (h < n) := ⟨by omega⟩
   have HIJ : za0 (i ≤ h ∧ h < j) := ⟨by omega⟩
   clear Hh
   obtain ⟨k, hk, hkn⟩ := HG.out _ HH.out
   obtain ⟨ad, rfl, HC⟩ := node_at HE.out (Below.refl _ w) _ k hkn
   have HC := za0.mk HC
   have HL : za0 (dotLt k.f0 d = true ↔ h < q) := ⟨by rw [← HQ.out]; exact posK_iff HS.out d hk⟩
   clear hk hkn
   go_wp2_with fail
   refine AnyOrder.wp_region (by kernel_rfl) (cbrInv w w.heap.size n c ad d i j h k (.slice (some ad) n c) (.int .i64 n) (.int .i64 n) (.int .i64 i) (.int .i64 j) (.bool true) (.int .i64 i) (.int .i64 j) (.int .i64 ((i : Int) + (j : Int))) (.int .u64 ((i : Int) + (j : Int))) (.int .u64 h) (.int .i64 h) u24 u25 u26 u27 u28 u29 u30 u31 u32 u33 u34) ⟨false, false, false, false, false, false, false, false, rfl, rfl, ⟨HB.out.drew⟩⟩ ?step ?last
   case step =>
    rintro L ac V i ⟨l0, l1, l2, l3, l4, l5, l6, l7, rfl, rfl, HF⟩ hi K hK
    rcases AnyOrder.up hi [0, 1, 2, 7, 3, 4, 5, 6] rfl with rfl | rfl | rfl | rfl | rfl | rfl | rfl | rfl
    all_goals
     replace hi := AnyOrder.first hi rfl
     repeat (obtain ⟨ha, hi⟩ := hi; first | obtain rfl := ha | clear ha)
     clear hi
     try simp only [sel_true, selv_true] at hK ⊢
    iterate 4
     ·
      refine AnyOrder.wpOp_go rfl (by rfl) ?_
      go_wp2_with fail
      exact ⟨_, _, _, _, _, _, _, _, rfl, rfl, HF⟩
    ·
     have hh := HH.out
     refine AnyOrder.wpOp_go rfl (by rfl) ?_
     go_wp2_with fail
     exact ⟨_, _, _, _, _, _, _, _, rfl, rfl, HF⟩
    ·
     obtain ⟨q0, q1, q2, q3, q4, q5⟩ := HC.out
     have e0 := zaf HF.out.below q0
     have e1 := zaf HF.out.below q1
     have e2 := zaf HF.out.below q2
     have e3 := zaf HF.out.below q3
     have e4 := zaf HF.out.below q4
     have e5 := zaf HF.out.below q5
     clear q0 q1 q2 q3 q4 q5
     refine AnyOrder.wpOp_go rfl (by rfl) ?_
     go_wp2_with fail
     exact ⟨_, _, _, _, _, _, _, _, rfl, rfl, HF⟩
    ·
     have d0 : V.cell? ⟨w.heap.size, 0, none⟩ = _ := (za4 HF.out.box 0).trans rfl
     have d1 : V.cell? ⟨w.heap.size, 1, none⟩ = _ := (za4 HF.out.box 1).trans rfl
     refine AnyOrder.wpOp_go rfl (by rfl) ?_
     go_wp2_with fail
     exact ⟨_, _, _, _, _, _, _, _, rfl, rfl, HF⟩
    ·
     refine AnyOrder.wpOp_go rfl (by rfl) ?_
     go_wp2_with fail
     refine (chainCmp_call k d V).mono ?_
     rintro e V' ⟨rfl, hb⟩
     exact hK _ _ ⟨_, _, _, _, _, _, _, _, rfl, rfl, ⟨HF.out.more hb⟩⟩
   case last =>
    rintro L ac V ⟨l0, l1, l2, l3, l4, l5, l6, l7, rfl, rfl, HF⟩ hr
    obtain ⟨rfl, rfl, rfl, rfl, rfl, rfl, rfl, rfl, -⟩ := AnyOrder.alls rfl (by kernel_rfl) hr
    clear hr
    simp only [sel_true, selv_true]
    clear hm
    rw [dotCmp_lt]
    cases hd : dotLt k.f0 d with
    | true =>
     have hw1 : wrap64 ((h : Int) + 1) = ((h + 1 : Nat) : Int) := by unfold wrap64; have := HH.out; omega
     have h2 := HL.out.1 hd
     have HIJ2 := HIJ.out
     clear hd
     go_wp2_with fail
     refine ⟨⟨h + 1, j, by omega, hj, hjn, by (first | rfl | (rw [hw1])), rfl, HF⟩, ?_⟩
     simp [intOf]; omega
    | false =>
     have h2 : ¬ h < q := fun e => by have := HL.out.2 e; rw [hd] at this; cases this
     have HIJ2 := HIJ.out
     clear hd
     go_wp2_with fail
     refine ⟨⟨i, h, hi, by omega, by omega, rfl, rfl, HF⟩, ?_⟩
     simp [intOf]; omega
  ·
   obtain rfl : q = i := by omega
   obtain rfl : q = j := by omega
   have hlb : decide ((q : Int) < (q : Int)) = false := decide_eq_false (by omega)
   by_cases hq : q < n
   ·
    have HH := za0.mk hq
    obtain ⟨k, hk, hkn⟩ := HG.out _ HH.out
    obtain ⟨ad, rfl, HC⟩ := node_at HE.out (Below.refl _ w) _ k hkn
    have HC := za0.mk HC
    have HR : za0 (hf = (zas k.f0 d == 0)) := ⟨by rw [← HHF.out, hasK, HQ.out, hk, dotCmp_eq]; simp⟩
    clear hk hkn
    go_wp2_with fail
    refine AnyOrder.wp_region (by kernel_rfl) (cbtInv w w.heap.size n c ad d q k u11 (.slice (some ad) n c) (.int .i64 n) (.int .i64 n) (.int .i64 q) (.int .i64 q) (.bool false) u18 u19 u20 u21 u22 u23 u24 u25 u26 u27 u28 u29 u30 u31 u32 u33 u34) ⟨false, false, false, false, false, false, false, false, false, false, false, false, false, false, false, false, rfl, rfl, ⟨HB.out.drew⟩⟩ ?step ?last
    case step =>
     rintro L ac V i ⟨l0, l1, l2, l3, l4, l5, l6, l7, l8, l9, l10, l11, l12, l13, l14, l15, rfl, rfl, HF⟩ hi K hK
     rcases AnyOrder.up hi [0, 1, 2, 4, 5, 6, 7, 12, 13, 14, 15, 3, 8, 9, 10, 11] rfl with rfl | rfl | rfl | rfl | rfl | rfl | rfl | rfl | rfl | rfl | rfl | rfl | rfl | rfl | rfl | rfl
     all_goals
      replace hi := AnyOrder.first hi rfl
      repeat (obtain ⟨ha, hi⟩ := hi; first | obtain rfl := ha | clear ha)
      clear hi
      try simp only [sel_true, selv_true] at hK ⊢
     iterate 11
      ·
       refine AnyOrder.wpOp_go rfl (by rfl) ?_
       go_wp2_with fail
       exact ⟨_, _, _, _, _, _, _, _, _, _, _, _, _, _, _, _, rfl, rfl, HF⟩
     ·
      have hh : decide ((q : Int) < (n : Int)) = true := decide_eq_true (by have := HH.out; omega)
      refine AnyOrder.wpOp_go rfl (by rfl) ?_
      go_wp2_with fail
      exact ⟨_, _, _, _, _, _, _, _, _, _, _, _, _, _, _, _, rfl, rfl, HF⟩
     ·
      have hh := HH.out
      refine AnyOrder.wpOp_go rfl (by rfl) ?_
      go_wp2_with fail
      exact ⟨_, _, _, _, _, _, _, _, _, _, _, _, _, _, _, _, rfl, rfl, HF⟩
     ·
      obtain ⟨q0, q1, q2, q3, q4, q5⟩ := HC.out
      have e0 := zaf HF.out.below q0
      have e1 := zaf HF.out.below q1
      have e2 := zaf HF.out.below q2
      have e3 := zaf HF.out.below q3
      have e4 := zaf HF.out.below q4
      have e5 := zaf HF.out.below q5
      clear q0 q1 q2 q3 q4 q5
      refine AnyOrder.wpOp_go rfl (by rfl) ?_
      go_wp2_with fail
      exact ⟨_, _, _, _, _, _, _, _, _, _, _, _, _, _, _, _, rfl, rfl, HF⟩
     ·
      have d0 : V.cell? ⟨w.heap.size, 0, none⟩ = _ := (za4 HF.out.box 0).trans rfl
      have d1 : V.cell? ⟨w.heap.size, 1, none⟩ = _ := (za4 HF.out.box 1).trans rfl
      refine AnyOrder.wpOp_go rfl (by rfl) ?_
      go_wp2_with fail
      exact ⟨_, _, _, _, _, _, _, _, _, _, _, _, _, _, _, _, rfl, rfl, HF⟩
     ·
      refine AnyOrder.wpOp_go rfl (by rfl) ?_
      go_wp2_with fail
      refine (chainCmp_call k d V).mono ?_
      rintro e V' ⟨rfl, hb⟩
      exact hK _ _ ⟨_, _, _, _, _, _, _, _, _, _, _, _, _, _, _, _, rfl, rfl, ⟨HF.out.more hb⟩⟩
    case last =>
     rintro L ac V ⟨l0, l1, l2, l3, l4, l5, l6, l7, l8, l9, l10, l11, l12, l13, l14, l15, rfl, rfl, HF⟩ hr
     obtain ⟨rfl, rfl, rfl, rfl, rfl, rfl, rfl, rfl, rfl, rfl, rfl, rfl, rfl, rfl, rfl, rfl, -⟩ := AnyOrder.alls rfl (by kernel_rfl) hr
     clear hr
     simp only [sel_true, selv_true]
     go_wp2
     refine bodyPost_ret (results_tmp2 rfl _ _ _) rfl ?_
     exact ⟨by rw [HR.out]; rfl, HF.out.below⟩
   ·
    obtain rfl : n = q := by omega
    have HR : za0 (hf = false) := ⟨by rw [← HHF.out, hasK, HQ.out, List.getElem?_eq_none (by rw [HKL.out]; exact Nat.le_refl _)]; rfl⟩
    go_wp2_with fail
    refine AnyOrder.wp_region (by kernel_rfl) (cbfInv w A w.heap.size n c d u11 (.slice A n c) (.int .i64 n) (.int .i64 n) (.int .i64 n) (.int .i64 n) (.bool false) u18 u19 u20 u21 u22 u23 u24 u25 u26 u27 u28 u29 u30 u31 u32 u33 u34) ⟨false, false, false, false, false, false, false, false, false, false, false, false, false, false, false, false, rfl, rfl, ⟨HB.out.drew⟩⟩ ?step ?last
    case step =>
     rintro L ac V i ⟨l0, l1, l2, l3, l4, l5, l6, l7, l8, l9, l10, l11, l12, l13, l14, l15, rfl, rfl, HF⟩ hi K hK
     rcases AnyOrder.up hi [0, 1, 2, 4, 13, 14, 15, 3, 5, 6, 7, 8, 9, 10, 11, 12] rfl with rfl | rfl | rfl | rfl | rfl | rfl | rfl | rfl | rfl | rfl | rfl | rfl | rfl | rfl | rfl | rfl
     all_goals
      replace hi := AnyOrder.first hi rfl
      repeat (obtain ⟨ha, hi⟩ := hi; first | obtain rfl := ha | clear ha)
      clear hi
      try simp only [sel_true, selv_true] at hK ⊢
     iterate 7
      ·
       refine AnyOrder.wpOp_go rfl (by rfl) ?_
       go_wp2_with fail
       exact ⟨_, _, _, _, _, _, _, _, _, _, _, _, _, _, _, _, rfl, rfl, HF⟩
     ·
      have hh : decide ((n : Int) < (n : Int)) = false := decide_eq_false (by omega)
      refine AnyOrder.wpOp_go rfl (by rfl) ?_
      go_wp2_with fail
      exact ⟨_, _, _, _, _, _, _, _, _, _, _, _, _, _, _, _, rfl, rfl, HF⟩
     iterate 8
      ·
       refine AnyOrder.wpOp_out rfl (by rfl) ?_
       exact hK _ _ ⟨_, _, _, _, _, _, _, _, _, _, _, _, _, _, _, _, rfl, rfl, HF⟩
    case last =>
     rintro L ac V ⟨l0, l1, l2, l3, l4, l5, l6, l7, l8, l9, l10, l11, l12, l13, l14, l15, rfl, rfl, HF⟩ hr
     obtain ⟨rfl, rfl, rfl, rfl, rfl, rfl, rfl, rfl, rfl, rfl, rfl, rfl, rfl, rfl, rfl, rfl, -⟩ := AnyOrder.alls rfl (by kernel_rfl) hr
     clear hr
     simp only [sel_true, selv_true]
     go_wp2
     refine bodyPost_ret (results_tmp2 rfl _ _ _) rfl ?_
     exact ⟨by rw [HR.out]; rfl, HF.out.below⟩
end
end Go.Proofs.YtmbndijbpgobeaaGreat.PWalk
end
