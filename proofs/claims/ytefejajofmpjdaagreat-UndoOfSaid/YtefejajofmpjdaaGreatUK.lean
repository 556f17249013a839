/-
  Of says what any delta does to any state. Part 11 of 11.
-/
import Derived.Test.YtefejajofmpjdaaGreatUJ
import Derived.Test.YtefejajofmpjdaaGreatRows
import Derived.WalkKit
import Derived.ProofKit
import Derived.OpenShut
import Derived.ShutString
import Derived.ChangeOld
import Derived.Below
import Derived.SizedLaws
import Derived.Deep.DeepHandedRow
import Derived.Deep.Slices
import Derived.Lib.SmallJoins
section
namespace Go.Proofs.YtefejajofmpjdaaGreat.PWalk
open Go.RowKit Go.Proofs.YtefejajofmpjdaaGreatW.PrintWords Go.Proofs.YtefejajofmpjdaaGreatW.PrintLast Go.Proofs.YtefejajofmpjdaaGreatW.PrintMore
set_option linter.unusedVariables false
set_option linter.unusedSimpArgs false
open Go.Shelf
attribute [local go_sem] Oper.semAt_some
section
def fnd (l : List Node) (d : Dot) : Option Node := l.find? fun x => decide (x.f0 = d)
theorem fnd_cons (x : Node) (l : List Node) (d : Dot) : fnd (x :: l) d = if d = x.f0 then some x else fnd l d := by
 unfold fnd
 rw [List.find?_cons]
 by_cases h : d = x.f0
 ·
  rw [if_pos h, decide_eq_true h.symm]
 ·
  rw [if_neg h, decide_eq_false (Ne.symm h)]
theorem nodes_rev (l : List Node) (d : Dot) : ∀ m : List (Dot × Node), MapLaw.mget (l.foldl (fun m x => MapLaw.mset m x.f0 x) m) d = (fnd l.reverse d).or (MapLaw.mget m d) := by
 induction l with
 | nil => intro m; rfl
 | cons x l ih =>
  intro m
  rw [List.foldl_cons, ih, MapLaw.mget_mset, List.reverse_cons]
  unfold fnd
  rw [List.find?_append, Option.or_assoc]
  congr 1
  rw [List.find?_cons]
  by_cases h : d = x.f0
  ·
   rw [if_pos h, decide_eq_true h.symm]; rfl
  ·
   rw [if_neg h, decide_eq_false (Ne.symm h)]; rfl
theorem fnd_some {l : List Node} {d : Dot} {x : Node} (h : fnd l d = some x) : x ∈ l ∧ x.f0 = d := ⟨List.mem_of_find?_eq_some h, by have := List.find?_some h; simpa using this⟩
theorem fnd_none {l : List Node} {d : Dot} (h : fnd l d = none) : ∀ x ∈ l, x.f0 ≠ d := by
 intro x hx
 have := List.find?_eq_none.1 h x hx
 simpa using this
theorem inc_same {l : List Node} (h : Inc l) {x y : Node} (hx : x ∈ l) (hy : y ∈ l) (e : x.f0 = y.f0) : x = y := by
 obtain ⟨i, hi⟩ := List.getElem?_of_mem hx
 obtain ⟨j, hj⟩ := List.getElem?_of_mem hy
 have := inc_unique h hi hj e
 subst this
 rw [hi] at hj
 exact Option.some.inj hj
theorem nodesM_fnd {l : List Node} (h : Inc l) (d : Dot) : MapLaw.mget (nodesM l) d = fnd l d := by
 unfold nodesM
 rw [nodes_rev]
 show (fnd l.reverse d).or none = _
 rw [Option.or_none]
 cases h1 : fnd l d with
 | none =>
  cases h2 : fnd l.reverse d with
  | none => rfl
  | some y => exact absurd (fnd_some h2).2 (fnd_none h1 y (List.mem_reverse.1 (fnd_some h2).1))
 | some x =>
  cases h2 : fnd l.reverse d with
  | none => exact absurd (fnd_some h1).2 (fnd_none h2 x (List.mem_reverse.2 (fnd_some h1).1))
  | some y => rw [inc_same h (List.mem_reverse.1 (fnd_some h2).1) (fnd_some h1).1 ((fnd_some h2).2.trans (fnd_some h1).2.symm)]
abbrev fndT (o : Option Node) : Int × Int × Int × Int × Int × Int × Bool := ((o.getD nodeZ).f0.f0, (o.getD nodeZ).f0.f1, (o.getD nodeZ).f1.f0, (o.getD nodeZ).f1.f1, (o.getD nodeZ).f2, (o.getD nodeZ).f3, o.isSome)
theorem rdN {l : List Node} {i : Nat} (h : i < l.length) : zad l (i : Int) = l[i] := by simp [zad, h]
theorem wrap_succ {i n : Nat} (h : i < n) (hn : n ≤ 1000000) : wrap64 ((i : Int) + 1) = ((i + 1 : Nat) : Int) := by unfold wrap64; omega
theorem find42_from (l : List Node) (hl : l.length ≤ 1000000) (d : Dot) : ∀ (q k i : Nat), i + q = l.length → q < k → redpencillaw42_find.l0 k l (i : Int) d.f0 d.f1 = some (fndT (fnd (l.drop i) d)) := by
 intro q
 induction q with
 | zero =>
  intro k i hd hk
  obtain ⟨k, rfl⟩ : ∃ m, k = m + 1 := ⟨k - 1, by omega⟩
  simp only [redpencillaw42_find.l0]
  rw [if_neg (by omega), List.drop_of_length_le (by omega)]; rfl
 | succ q ih =>
  intro k i hd hk
  obtain ⟨k, rfl⟩ : ∃ m, k = m + 1 := ⟨k - 1, by omega⟩
  simp only [redpencillaw42_find.l0]
  have hi : i < l.length := by omega
  rw [if_pos (by omega), if_pos (by omega), rdN hi, wrap_succ hi hl, List.drop_eq_getElem_cons hi, fnd_cons]
  have e : ((l[i].f0.f0 == d.f0 && (l[i].f0.f1 == d.f1)) = true) ↔ d = l[i].f0 := by rw [Dot.ext_iff']; simp; omega
  by_cases h : d = l[i].f0
  ·
   rw [if_pos (e.2 h), if_pos h]; rfl
  ·
   rw [if_neg (fun hh => h (e.1 hh)), if_neg h]
   exact ih k (i + 1) (by omega) (by omega)
theorem find42_is (l : List Node) (hl : l.length ≤ 1000000) (d : Dot) : redpencillaw42_find.f (l.length + 1) l d.f0 d.f1 = some (fndT (fnd l d)) :=
 find42_from l hl d l.length (l.length + 1) 0 (by omega) (by omega)
def redpencillaw42_does.f (l0 l1 : List Node) : Option (List Dot × List LostE × Int) := undo_Of.f l0 l1
/-- What the loop of does keeps besides: the order's row. -/
theorem OfF.keepD {W1 : World} {gc : Nat} {u v u2 : Value} {c : List Dot × List LostE} {V V2 : World} (h : OfF W1 gc u v c V) (hg : V.grownBy V2 u.ownBlock) {z : Value} {O : List Node} {b : Nat} (hr : RN V b z O) : RN (V2.setCell ⟨gc, 0, none⟩ u2) b z O := by
 refine hr.keep fun g hgg => ?_
 obtain ⟨_, cur, hc⟩ := hr.block hgg
 have h1 : g ≠ gc := fun e => by subst e; rw [h.bc] at hc; exact absurd (Obj.cells.inj (Option.some.inj hc)).2.1 (by decide)
 rw [zas h1]
 exact hg.block g (zaf hc) fun e => by obtain ⟨_, cur2, hc2⟩ := h.rd.block e.symm; rw [hc] at hc2; exact absurd (Obj.cells.inj (Option.some.inj hc2)).2.1 (by decide)
theorem OfF.keepL {W1 : World} {gc : Nat} {u v u2 : Value} {c : List Dot × List LostE} {V V2 : World} (h : OfF W1 gc u v c V) (hg : V.grownBy V2 v.ownBlock) {z : Value} {O : List Node} {b : Nat} (hr : RN V b z O) : RN (V2.setCell ⟨gc, 1, none⟩ u2) b z O := by
 refine hr.keep fun g hgg => ?_
 obtain ⟨_, cur, hc⟩ := hr.block hgg
 have h1 : g ≠ gc := fun e => by subst e; rw [h.bc] at hc; exact absurd (Obj.cells.inj (Option.some.inj hc)).2.1 (by decide)
 rw [zas h1]
 exact hg.block g (zaf hc) fun e => by obtain ⟨_, cur2, hc2⟩ := h.rl.block e.symm; rw [hc] at hc2; exact absurd (Obj.cells.inj (Option.some.inj hc2)).2.1 (by decide)
set_option maxHeartbeats 4000000 in
set_option maxRecDepth 100000 in
theorem redpencillaw42_does.calls (A0 : Option Addr) (c0 : Nat) (l0 : List Node) (A1 : Option Addr) (c1 : Nat) (l1 : List Node) (r1 : List Dot) (r2 : List LostE) (r3 : Int) (w : World) (hr0 : Kd.C k42 w A0 l0.length l0) (hc0 : l0.length ≤ c0) (hr1 : Kd.C k42 w A1 l1.length l1) (hc1 : l1.length ≤ c1) (h : redpencillaw42_does.f l0 l1 = some (r1, r2, r3)) :
  Calls Tryz.prog 8 #[.slice A0 l0.length c0, .slice A1 l1.length c1] w fun e w' => ∃ v0 v1 : Value, e = .returned (.tuple #[.agg #[v0, v1], .int .i64 r3]) ∧ Kd.R k39 39 w' w.heap.size (fun _ => True) v0 r1 ∧ Kd.R k68 68 w' w.heap.size (fun _ => True) v1 r2 ∧ Below w.heap.size w w' := by
 unfold redpencillaw42_does.f undo_Of.f at h
 by_cases hl : l0.length + l1.length ≤ 300000
 rotate_left
 ·
  rw [if_neg hl] at h; cases h
 rw [if_pos hl] at h
 have HRES := za0.mk (Option.some.inj h)
 have HL := za0.mk hl
 have HR0 := za0.mk hr0
 have HR1 := za0.mk hr1
 obtain ⟨b0, Hb0⟩ : ∃ b, za0 (storeOk l0 = b) := ⟨_, ⟨rfl⟩⟩
 obtain ⟨b1, Hb1⟩ : ∃ b, za0 (storeOk l1 = b) := ⟨_, ⟨rfl⟩⟩
 obtain ⟨b2, Hb2⟩ : ∃ b, za0 (wellB l0 = b) := ⟨_, ⟨rfl⟩⟩
 obtain ⟨jr, Hjr⟩ : ∃ b, za0 (joinR l0 l1 = b) := ⟨_, ⟨rfl⟩⟩
 have HV0 := za0.mk (fun W (hb : Below w.heap.size w W) => join_Valid.calls A0 c0 l0 b0 W (Kd.C_below hr0 hb) hc0 (by unfold join_Valid.f store_Valid.f; rw [if_pos (by omega), Hb0.out]; rfl))
 have HV1 := za0.mk (fun W (hb : Below w.heap.size w W) => join_Valid.calls A1 c1 l1 b1 W (Kd.C_below hr1 hb) hc1 (by unfold join_Valid.f store_Valid.f; rw [if_pos (by omega), Hb1.out]; rfl))
 have HW0 := za0.mk (fun W (hb : Below w.heap.size w W) => shape_Well.calls A0 c0 l0 b2 W (Kd.C_below hr0 hb) hc0 (by rw [well_is (by omega), Hb2.out]))
 have HJ := za0.mk (fun W (hb : Below w.heap.size w W) => join_Join.calls A0 c0 l0 A1 c1 l1 jr.1 jr.2 W (Kd.C_below hr0 hb) hc0 (Kd.C_below hr1 hb) hc1 (by unfold join_Join.f; rw [if_pos (by omega), Hjr.out]))
 have HFA := za0.mk (fun W (d : Dot) (hb : Below w.heap.size w W) => redpencillaw42_find.calls (l0.length + 1) A0 c0 l0 d.f0 d.f1 _ _ _ _ _ _ _ W (Kd.C_below hr0 hb) hc0 (find42_is l0 (by omega) d))
 have HFB := za0.mk (fun W (d : Dot) (hb : Below w.heap.size w W) => redpencillaw42_find.calls (l1.length + 1) A1 c1 l1 d.f0 d.f1 _ _ _ _ _ _ _ W (Kd.C_below hr1 hb) hc1 (find42_is l1 (by omega) d))
 have hu := Tryz.underlying42
 have hu2 := Tryz.underlying39
 have hu3 := Tryz.underlying28
 obtain ⟨n0, Hn0⟩ : ∃ n, za0 (l0.length = n) := ⟨_, ⟨rfl⟩⟩
 obtain ⟨n1, Hn1⟩ : ∃ n, za0 (l1.length = n) := ⟨_, ⟨rfl⟩⟩
 rw [Hn0.out] at HV0 HW0 HJ HFA
 rw [Hn1.out] at HV1 HJ HFB
 rw [Hn0.out, Hn1.out]
 clear h hl hr0 hr1 hc0 hc1
 have HZ := za0.mk (zaj w (chgC (.slice none 0 0) (.slice none 0 0)))
 have HB := za0.mk (za2 (Below.refl _ w) (chgC (.slice none 0 0) (.slice none 0 0)))
 go_enter Tryz.func8, Tryz.ntmps8
 go_wp2_with fail
 refine (HV0.out _ HB.out).mono ?_
 rintro e V0 ⟨rfl, hb⟩
 have HZ := za0.mk (zac HZ.out hb)
 have HB := za0.mk (zaa HB.out hb)
 clear hb HV0
 cases b0
 ·
  clear HV1 HW0 HJ Hb1 Hb2 Hjr
  go_wp2_with (first | (refine zar rfl _ _ rfl rfl HZ.out (.slice none 0 0) (.slice none 0 0) rfl rfl rfl rfl ?_; intro V1 hz1 hg1) | fail)
  have HB := za0.mk (grown_on hg1 HB.out (fun k e => by have := Option.some.inj e; omega))
  have HZ := za0.mk hz1
  refine bodyPost_ret (results_chg rfl _ _ _ _ _ rfl HZ.out) rfl ?_
  have h := HRES.out
  unfold undoOfR at h
  rw [if_neg (fun h => by have := h.1; rw [Hb0.out] at this; cases this)] at h
  cases h
  exact ⟨_, _, rfl, Kd.R_nil _ _ _ _ _, Kd.R_nil _ _ _ _ _, HB.out⟩
 go_wp2_with fail
 refine (HV1.out V0 HB.out).mono ?_
 rintro e V1 ⟨rfl, hb⟩
 have HZ := za0.mk (zac HZ.out hb)
 have HB := za0.mk (zaa HB.out hb)
 clear hb HV1
 cases b1
 ·
  clear HW0 HJ Hb2 Hjr
  go_wp2_with (first | (refine zar rfl _ _ rfl rfl HZ.out (.slice none 0 0) (.slice none 0 0) rfl rfl rfl rfl ?_; intro V9 hz1 hg1) | fail)
  have HB := za0.mk (grown_on hg1 HB.out (fun k e => by have := Option.some.inj e; omega))
  have HZ := za0.mk hz1
  refine bodyPost_ret (results_chg rfl _ _ _ _ _ rfl HZ.out) rfl ?_
  have h := HRES.out
  unfold undoOfR at h
  rw [if_neg (fun h => by have := h.2.1; rw [Hb1.out] at this; cases this)] at h
  cases h
  exact ⟨_, _, rfl, Kd.R_nil _ _ _ _ _, Kd.R_nil _ _ _ _ _, HB.out⟩
 go_wp2_with fail
 refine (HW0.out V1 HB.out).mono ?_
 rintro e V2 ⟨rfl, hb⟩
 have HZ := za0.mk (zac HZ.out hb)
 have HB := za0.mk (zaa HB.out hb)
 clear hb HW0
 cases b2
 ·
  clear HJ Hjr
  go_wp2_with (first | (refine zar rfl _ _ rfl rfl HZ.out (.slice none 0 0) (.slice none 0 0) rfl rfl rfl rfl ?_; intro V9 hz1 hg1) | fail)
  have HB := za0.mk (grown_on hg1 HB.out (fun k e => by have := Option.some.inj e; omega))
  have HZ := za0.mk hz1
  refine bodyPost_ret (results_chg rfl _ _ _ _ _ rfl HZ.out) rfl ?_
  have h := HRES.out
  unfold undoOfR at h
  rw [if_neg (fun h => by have := h.2.2; rw [Hb2.out] at this; cases this)] at h
  cases h
  exact ⟨_, _, rfl, Kd.R_nil _ _ _ _ _, Kd.R_nil _ _ _ _ _, HB.out⟩
 have HRJ : za0 ((match joinOf l0 l1 with | none => ([], [], 15) | some j => if wellB j = true then ((ofC l0 l1 j).1, (ofC l0 l1 j).2, 0) else ([], [], 8)) = (r1, r2, r3)) := ⟨by
  have := HRES.out; unfold undoOfR at this; rwa [if_pos ⟨Hb0.out, Hb1.out, Hb2.out⟩] at this⟩
 have HJ2 : za0 ((match joinOf l0 l1 with | some r => (r, (0 : Int)) | none => ([], 15)) = jr) := ⟨by
  have := Hjr.out; unfold joinR at this; rwa [if_pos ⟨Hb0.out, Hb1.out⟩] at this⟩
 have HI0 := za0.mk (fun d => nodesM_fnd (store_of Hb0.out).inc d)
 have HI1 := za0.mk (fun d => nodesM_fnd (store_of Hb1.out).inc d)
 clear HRES Hjr Hb0 Hb1 Hb2
 go_wp2_with fail
 refine (HJ.out V2 HB.out).mono ?_
 rintro e V3 ⟨vj, rfl, hrj, hb⟩
 have HVJ := za0.mk hrj
 have HZ := za0.mk (zac HZ.out hb)
 have HB := za0.mk (zaa HB.out hb)
 clear hb hrj HJ
 cases hjo : joinOf l0 l1 with
 | none =>
  have HJO := za0.mk hjo
  clear hjo
  have h2 := HJ2.out
  rw [HJO.out] at h2
  subst h2
  go_wp2_with (first | (refine zar rfl _ _ rfl rfl HZ.out (.slice none 0 0) (.slice none 0 0) rfl rfl rfl rfl ?_; intro V9 hz1 hg1) | fail)
  have HB := za0.mk (grown_on hg1 HB.out (fun k e => by have := Option.some.inj e; omega))
  have HZ := za0.mk hz1
  refine bodyPost_ret (results_chg rfl _ _ _ _ _ rfl HZ.out) rfl ?_
  have h := HRJ.out
  rw [HJO.out] at h
  cases h
  exact ⟨_, _, rfl, Kd.R_nil _ _ _ _ _, Kd.R_nil _ _ _ _ _, HB.out⟩
 | some j =>
  have HJO := za0.mk hjo
  clear hjo
  have h2 := HJ2.out
  rw [HJO.out] at h2
  subst h2
  have h := HRJ.out
  rw [HJO.out] at h
  have HRJ := za0.mk h
  clear h HJ2
  have HLJ : za0 (j.length ≤ 300000) := ⟨by have := joinOf_len HJO.out; have := HL.out; have := Hn0.out; have := Hn1.out; omega⟩
  obtain ⟨Aj, cj, rfl, hcj, hCj⟩ := Kd.R_reads HVJ.out
  have HCJ := za0.mk hCj
  obtain ⟨b3, Hb3⟩ : ∃ b, za0 (wellB j = b) := ⟨_, ⟨rfl⟩⟩
  have HWJ := za0.mk (fun W (hb : Below V3.heap.size V3 W) => shape_Well.calls Aj cj j b3 W (Kd.C_below hCj hb) hcj (by rw [well_is (by have := HLJ.out; omega), Hb3.out]))
  have HOJ := za0.mk (fun W (hb : Below V3.heap.size V3 W) (hs : storeOk j = true) => walk_Order.calls Aj cj j ((ordOf j).map (·.2)) 0 W (Kd.C_below hCj hb) hcj (by unfold walk_Order.f; rw [if_pos (by have := HLJ.out; omega), if_pos hs]))
  clear hcj hCj HVJ
  go_wp2_with fail
  refine (HWJ.out V3 (Below.refl _ _)).mono ?_
  rintro e V4 ⟨rfl, hb⟩
  have HZ := za0.mk (zac HZ.out hb)
  have HB := za0.mk (zaa HB.out hb)
  have HB3 := za0.mk hb
  clear hb HWJ
  cases b3
  ·
   skip
   go_wp2_with (first | (refine zar rfl _ _ rfl rfl HZ.out (.slice none 0 0) (.slice none 0 0) rfl rfl rfl rfl ?_; intro V9 hz1 hg1) | fail)
   have HB := za0.mk (grown_on hg1 HB.out (fun k e => by have := Option.some.inj e; omega))
   have HZ := za0.mk hz1
   refine bodyPost_ret (results_chg rfl _ _ _ _ _ rfl HZ.out) rfl ?_
   have h := HRJ.out
   rw [if_neg (by rw [Hb3.out]; decide)] at h
   cases h
   exact ⟨_, _, rfl, Kd.R_nil _ _ _ _ _, Kd.R_nil _ _ _ _ _, HB.out⟩
  have h := HRJ.out
  rw [if_pos Hb3.out] at h
  have HRJ := za0.mk h
  clear h
  have HF0 : za0 (OfF V4 V4.heap.size (.slice none 0 0) (.slice none 0 0) ([], []) (V4.alloc (chgC (.slice none 0 0) (.slice none 0 0)))) := ⟨⟨zaj _ _, Kd.R_nil _ _ _ _ _, Kd.R_nil _ _ _ _ _, za2 (Below.refl _ _) _⟩⟩
  go_wp2_with fail
  refine (HOJ.out _ (zaa HB3.out (za2 (Below.refl _ V4) (chgC (.slice none 0 0) (.slice none 0 0)))) (wellB_ok Hb3.out)).mono ?_
  rintro e V5 ⟨vo, rfl, hro, hb⟩
  have HLO : za0 (((ordOf j).map (·.2)).length ≤ 300000) := ⟨by rw [List.length_map]; have := ord_le (store_of (wellB_ok Hb3.out)); have := HLJ.out; omega⟩
  have HOC : za0 (((ordOf j).map (·.2)).foldl (ofStep l0 l1) ([], []) = ofC l0 l1 j) := ⟨rfl⟩
  obtain ⟨O, HO⟩ : ∃ O, za0 ((ordOf j).map (·.2) = O) := ⟨_, ⟨rfl⟩⟩
  rw [HO.out] at hro HLO HOC
  obtain ⟨Ao, co, rfl, hco, hCo⟩ := Kd.R_reads hro
  have HRO : za0 (RN V5 0 (.slice Ao O.length co) O) := ⟨Kd.R_lower hro (Nat.zero_le _)⟩
  have HF0 := za0.mk (HF0.out.more hb)
  obtain ⟨no, Hno⟩ : ∃ n, za0 (O.length = n) := ⟨_, ⟨rfl⟩⟩
  rw [Hno.out]
  rw [Hno.out] at HLO HRO
  clear hb HOJ hro hCo hco
  go_wp2_with fail
  go_loopw [11] (fun i wr => ∃ (k : Nat) (u v : Value), i = .int .i64 k ∧ k ≤ no ∧ za0 (OfF V4 V4.heap.size u v ((O.take k).foldl (ofStep l0 l1) ([], [])) wr) ∧ za0 (RN wr 0 (.slice Ao no co) O)) (fun i _ => no - (intOf i).toNat)
  case atStart => exact ⟨0, _, _, rfl, Nat.zero_le _, HF0, HRO⟩
  case round =>
   obtain ⟨k, u, v, rfl, hk, HF, HRO⟩ := hrel
   by_cases hlt : k < no
   ·
    obtain ⟨x, Hx⟩ : ∃ x, za0 (O[k]? = some x) := ⟨_, ⟨List.getElem?_eq_getElem (by rw [Hno.out]; exact hlt)⟩⟩
    have HST := za0.mk (ofStep_take (s := l0) (d := l1) Hx.out)
    obtain ⟨ad, e, y0, y1, y2, y3, y4, y5⟩ := node_at (Kd.R_reads' HRO.out).2.2 (Below.refl _ _) k x Hx.out
    subst e
    obtain ⟨old, Ho⟩ : ∃ o, za0 ((fnd l0 x.f0).getD nodeZ = o) := ⟨_, ⟨rfl⟩⟩
    obtain ⟨y, Hy⟩ : ∃ o, za0 ((fnd l1 x.f0).getD nodeZ = o) := ⟨_, ⟨rfl⟩⟩
    obtain ⟨was, Hwas⟩ : ∃ b, za0 ((fnd l0 x.f0).isSome = b) := ⟨_, ⟨rfl⟩⟩
    obtain ⟨is, His⟩ : ∃ b, za0 ((fnd l1 x.f0).isSome = b) := ⟨_, ⟨rfl⟩⟩
    have HCALA := HFA.out wr x.f0 (below_then HB.out HB.out.size HF.out.below)
    rw [Ho.out, Hwas.out] at HCALA
    have HCA := za0.mk HCALA
    clear HCALA
    go_wp2_with fail
    clear y0 y1 y2 y3 y4 y5
    refine HCA.out.mono ?_
    rintro e W1 ⟨rfl, hb⟩
    have HW1 := za0.mk (zaa hb (za2 (Below.refl _ W1) (boxN old)))
    have HO := za0.mk (zaj W1 (boxN old))
    clear hb HCA
    obtain ⟨ad', e', y0, y1, y2, y3, y4, y5⟩ := node_at (Kd.R_reads' HRO.out).2.2 HW1.out k x Hx.out
    cases e'
    have HCALB := HFB.out _ x.f0 (below_then (below_then HB.out HB.out.size HF.out.below) (below_then HB.out HB.out.size HF.out.below).size HW1.out)
    rw [Hy.out, His.out] at HCALB
    have HCB := za0.mk HCALB
    clear HCALB
    go_wp2_with fail
    clear y0 y1 y2 y3 y4 y5
    refine HCB.out.mono ?_
    rintro e W2 ⟨rfl, hb⟩
    have HW2 := za0.mk (zaa (zaa HW1.out hb) (za2 (Below.refl _ W2) (boxN y)))
    have HO := za0.mk (za6 (zac HO.out hb) (boxN y))
    have HY := za0.mk (zaj W2 (boxN y))
    clear hb HCB
    have HF := za0.mk (HF.out.more HW2.out)
    have HRO := za0.mk (RN.below' HRO.out HW2.out)
    have hkn : k < no ∧ no ≤ 300000 := ⟨hlt, HLO.out⟩
    go_upto_region 15 with (fail)
    generalize W2.alloc (boxN y) = V at *
    generalize W1.heap.size = go at *
    generalize W2.heap.size = gy at *
    obtain ⟨o0, o1, o2, o3, o4, o5⟩ := box_six HO.out
    obtain ⟨z0, z1, z2, z3, z4, z5⟩ := box_six HY.out
    obtain ⟨C, HC⟩ : ∃ C, za0 ((O.take k).foldl (ofStep l0 l1) ([], []) = C) := ⟨_, ⟨rfl⟩⟩
    have HCL : za0 (C.1.length ≤ 1000000 ∧ C.2.length ≤ 1000000) := ⟨by have := ofStep_len l0 l1 (O.take k) ([], []); rw [HC.out, List.length_take] at this; simp only [List.length_nil] at this; omega⟩
    rw [HC.out] at HST HF
    have b0 : V.cell? ⟨V4.heap.size, 0, none⟩ = some u := (za4 HF.out.bc 0).trans rfl
    have b1 : V.cell? ⟨V4.heap.size, 1, none⟩ = some v := (za4 HF.out.bc 1).trans rfl
    have HUC : za0 (ofStep l0 l1 C x = if is = true then (if was = true then (if old.f3 ≠ 0 ∧ y.f3 = 0 then (C.1, C.2 ++ [⟨x.f0, old.f3⟩]) else C) else (if y.f3 = 0 then C else (C.1 ++ [x.f0], C.2))) else C) := ⟨by
     have h1 := Hwas.out; have h2 := His.out; have h3 := Ho.out; have h4 := Hy.out
     unfold ofStep
     rw [HI0.out, HI1.out]
     cases hd : fnd l1 x.f0 with
     | none => rw [hd] at h2; subst h2; simp
     | some yy =>
      rw [hd] at h2 h4
      cases hs : fnd l0 x.f0 with
      | none => rw [hs] at h1; subst h1 h2; simp at h4; subst h4; simp
      | some oo => rw [hs] at h1 h3; subst h1 h2; simp at h3 h4; subst h3 h4; simp⟩
    rw [HUC.out] at HST
    have HYD : za0 (is = true → y.f0 = x.f0) := ⟨fun hi => by
     have h2 := His.out; have h4 := Hy.out
     cases hd : fnd l1 x.f0 with
     | none => rw [hd] at h2; subst h2; cases hi
     | some yy => rw [hd] at h4; simp at h4; subst h4; exact (fnd_some hd).2⟩
    have HOD : za0 (was = true → old.f0 = x.f0) := ⟨fun hi => by
     have h2 := Hwas.out; have h4 := Ho.out
     cases hd : fnd l0 x.f0 with
     | none => rw [hd] at h2; subst h2; cases hi
     | some yy => rw [hd] at h4; simp at h4; subst h4; exact (fnd_some hd).2⟩
    clear HUC Hwas His Ho Hy
    cases is
    ·
     clear z0 z1 z2 z3 z4 z5 o0 o1 o2 o3 o4 o5 b0 b1
     go_wp2
     go_roundw
     case rel => exact ⟨k + 1, u, v, by go_num, by omega, by rw [HST.out, if_neg (by decide)]; exact HF, HRO⟩
     case measure => simp [intOf]; omega
    cases was
    ·
     by_cases hy : y.f3 = 0
     ·
      have hq : (y.f3 != 0) = false := by rw [hy]; rfl
      have HUY := za0.mk hy
      clear hy o0 o1 o2 o3 o4 o5 b0 b1
      go_wp2
      go_roundw
      case rel => exact ⟨k + 1, u, v, by go_num, by omega, by rw [HST.out, if_pos rfl, if_neg (by decide), if_pos HUY.out]; exact HF, HRO⟩
      case measure => simp [intOf]; omega
     ·
      have hq : (y.f3 != 0) = true := bne_iff_ne.2 hy
      have HUY := za0.mk hy
      clear hy o0 o1 o2 o3 o4 o5
      go_wp2_with (first | (at_builtin; refine app_dot1 V4.heap.size rfl _ _ rfl u C.1 y.f0 rfl rfl HF.out.rd HF.out.below.size HCL.out.1 ?_; intro u2 V2 hr2 hg2; obtain ⟨A2, c2, rfl⟩ := RD.slice hr2; have hb2 := blk_grown HF.out.bc hg2 HF.out.neD; have hcz : V2.cell? ⟨V4.heap.size, 0, none⟩ = some u := (za4 hb2 0).trans rfl; have hfz := za8 hb2 0) | fail)
      have hf := HF.out.putD (Nat.le_refl _) hr2 hg2
      have hro := HF.out.keepD (u2 := .slice A2 (C.1 ++ [y.f0]).length c2) hg2 HRO.out
      rw [List.length_append, List.length_singleton] at hf hro
      rw [HYD.out rfl] at hf
      have HRO := za0.mk hro
      clear hro
      have HF := za0.mk hf
      clear hf
      clear hb2 hcz hfz hr2 hg2
      go_roundw
      case rel => exact ⟨k + 1, _, v, by go_num, by omega, by rw [HST.out, if_pos rfl, if_neg (by decide), if_neg HUY.out]; exact HF, HRO⟩
      case measure => simp [intOf]; omega
    ·
     by_cases ho : old.f3 = 0
     ·
      have hq : (old.f3 != 0) = false := by rw [ho]; rfl
      have HUO := za0.mk ho
      clear ho b0 b1
      go_wp2
      go_roundw
      case rel => exact ⟨k + 1, u, v, by go_num, by omega, by rw [HST.out, if_pos rfl, if_pos rfl, if_neg (fun h => h.1 HUO.out)]; exact HF, HRO⟩
      case measure => simp [intOf]; omega
     ·
      have hq : (old.f3 != 0) = true := bne_iff_ne.2 ho
      have HUO := za0.mk ho
      clear ho
      by_cases hy : y.f3 = 0
      ·
       have hq2 : (y.f3 == 0) = true := beq_iff_eq.2 hy
       have HUY := za0.mk hy
       clear hy
       go_wp2_with (first | (at_builtin; refine app_lost1 V4.heap.size rfl _ _ rfl v C.2 ⟨old.f0, old.f3⟩ rfl rfl HF.out.rl HF.out.below.size HCL.out.2 ?_; intro v2 V2 hr2 hg2; obtain ⟨A2, c2, rfl⟩ := Kd.R_slice hr2; have hb2 := blk_grown HF.out.bc hg2 HF.out.neL; have hcz : V2.cell? ⟨V4.heap.size, 1, none⟩ = some v := (za4 hb2 1).trans rfl; have hfz := za8 hb2 1) | fail)
       have hf := HF.out.putL (Nat.le_refl _) hr2 hg2
       have hro := HF.out.keepL (u2 := .slice A2 (C.2 ++ [(⟨old.f0, old.f3⟩ : LostE)]).length c2) hg2 HRO.out
       rw [List.length_append, List.length_singleton] at hf hro
       rw [HOD.out rfl] at hf
       have HRO := za0.mk hro
       clear hro
       have HF := za0.mk hf
       clear hf
       clear hb2 hcz hfz hr2 hg2
       go_roundw
       case rel => exact ⟨k + 1, u, _, by go_num, by omega, by rw [HST.out, if_pos rfl, if_pos rfl, if_pos ⟨HUO.out, HUY.out⟩]; exact HF, HRO⟩
       case measure => simp [intOf]; omega
      ·
       have hq2 : (y.f3 == 0) = false := beq_eq_false_iff_ne.2 hy
       have HUY := za0.mk hy
       clear hy b0 b1
       go_wp2
       go_roundw
       case rel => exact ⟨k + 1, u, v, by go_num, by omega, by rw [HST.out, if_pos rfl, if_pos rfl, if_neg (fun h => HUY.out h.2)]; exact HF, HRO⟩
       case measure => simp [intOf]; omega
   ·
    obtain rfl : k = no := by omega
    rw [List.take_of_length_le (Nat.le_of_eq Hno.out), HOC.out] at HF
    have h := HRJ.out
    have e1 : (ofC l0 l1 j).1 = r1 := by cases h; rfl
    have e2 : (ofC l0 l1 j).2 = r2 := by cases h; rfl
    have e3 : (0 : Int) = r3 := by cases h; rfl
    clear h
    subst e3
    have hrd := HF.out.rd
    have hrl := HF.out.rl
    rw [e1] at hrd
    rw [e2] at hrl
    have HRD := za0.mk hrd
    have HRL := za0.mk hrl
    have HGZ : za0 (w.heap.size < V4.heap.size) := ⟨zaf HZ.out⟩
    have HZ := za0.mk (zac HZ.out HF.out.below)
    have b0 : wr.cell? ⟨V4.heap.size, 0, none⟩ = some u := (za4 HF.out.bc 0).trans rfl
    have b1 : wr.cell? ⟨V4.heap.size, 1, none⟩ = some v := (za4 HF.out.bc 1).trans rfl
    clear e1 e2 hrd hrl
    have HU1 : za0 (u.oneCell' = true) := ⟨by obtain ⟨A, c, e⟩ := RD.slice HRD.out; rw [e]; rfl⟩
    have HV1 : za0 (v.oneCell' = true) := ⟨by obtain ⟨A, c, e⟩ := Kd.R_slice HRL.out; rw [e]; rfl⟩
    go_wp2_with (first | (refine zar rfl _ _ rfl rfl HZ.out u v rfl rfl HU1.out HV1.out ?_; intro V9 hz1 hg1) | fail)
    have HB := za0.mk (below_then HB.out HB.out.size HF.out.below)
    have HB := za0.mk (grown_on hg1 HB.out (fun k e => by have := Option.some.inj e; omega))
    have HRD := za0.mk (HRD.out.keep fun g hg => hg1.block g (HRD.out.lt hg) fun e => by have := (HRD.out.block hg).1; have := HGZ.out; have := Option.some.inj e; omega)
    have HRL := za0.mk (HRL.out.keep fun g hg => hg1.block g (by obtain ⟨_, cur, hc⟩ := HRL.out.block hg; exact zaf hc) fun e => by have := (HRL.out.block hg).1; have := HGZ.out; have := Option.some.inj e; omega)
    have HZ := za0.mk hz1
    refine bodyPost_ret (results_chg rfl _ _ _ _ _ rfl HZ.out) rfl ?_
    exact ⟨_, _, rfl, Kd.R_lower HRD.out (Nat.le_of_lt HGZ.out), Kd.R_lower HRL.out (Nat.le_of_lt HGZ.out), HB.out⟩
end
section
theorem wrap_next {j : Nat} (h : j < 1000000) : wrap64 ((j : Int) + 1) = ((j + 1 : Nat) : Int) := by unfold wrap64; omega
theorem dots_l0_self (l : List Dot) (hl : l.length ≤ 1000000) : ∀ (k j : Nat), j ≤ l.length → l.length - j < k → redpencillaw42_dots.l0 k l l (j : Int) = some true
 | 0, j, _, h => by omega
 | k + 1, j, hj, h => by
  rw [redpencillaw42_dots.l0]
  by_cases hlt : j < l.length
  ·
   rw [if_pos (by omega), if_pos (by omega), if_pos (by omega), if_neg (by simp), wrap_next (by omega)]
   exact dots_l0_self l hl k (j + 1) hlt (by omega)
  ·
   rw [if_neg (by omega)]
theorem dots_self (k : Nat) (l : List Dot) (hl : l.length ≤ 1000000) (hk : l.length < k) : redpencillaw42_dots.f k l l = some true := by
 unfold redpencillaw42_dots.f
 rw [if_pos rfl]
 exact dots_l0_self l hl k 0 (Nat.zero_le _) (by omega)
theorem alike_l0_self (m : List Dot) (l : List LostE) (hm : m.length ≤ 1000000) (hl : l.length ≤ 1000000) : ∀ (k j : Nat), j ≤ l.length → l.length - j + m.length + 1 < k → redpencillaw42_alike.l0 k (j : Int) m l m l = some true
 | 0, j, _, h => by omega
 | k + 1, j, hj, h => by
  rw [redpencillaw42_alike.l0]
  by_cases hlt : j < l.length
  ·
   rw [if_pos (by omega), if_pos (by omega), if_pos (by omega), if_neg (by simp), wrap_next (by omega)]
   exact alike_l0_self m l hm hl k (j + 1) hlt (by omega)
  ·
   rw [if_neg (by omega), dots_self k m hm (by omega)]; rfl
theorem alike_self (k : Nat) (m : List Dot) (l : List LostE) (hm : m.length ≤ 1000000) (hl : l.length ≤ 1000000) (hk : l.length + m.length + 1 < k) : redpencillaw42_alike.f k m l m l = some true := by
 unfold redpencillaw42_alike.f
 rw [if_pos rfl]
 exact alike_l0_self m l hm hl k 0 (Nat.zero_le _) (by omega)
theorem undoOfR_len (s d : List Node) : (undoOfR s d).1.length ≤ s.length + d.length ∧ (undoOfR s d).2.1.length ≤ s.length + d.length := by
 unfold undoOfR
 split
 ·
  cases hj : joinOf s d with
  | none => simp
  | some j =>
   dsimp only
   split
   ·
    next hw =>
    have h1 := joinOf_len hj
    have h2 := ord_le (store_of (wellB_ok hw))
    have h3 := ofStep_len s d ((ordOf j).map (·.2)) ([], [])
    rw [List.length_map] at h3
    simp only [List.length_nil] at h3
    unfold ofC
    dsimp only
    omega
   ·
    simp
 ·
  simp
theorem of_does {k : Nat} {l0 l1 : List Node} (h : l0.length + l1.length ≤ 300000) (hk : 2 * (l0.length + l1.length) + 1 < k) : redpencillaw42_of.f k l0 l1 (undoOfR l0 l1).1 (undoOfR l0 l1).2.1 (undoOfR l0 l1).2.2 = some true := by
 unfold redpencillaw42_of.f undo_Of.f
 rw [if_pos h]
 obtain ⟨h1, h2⟩ := undoOfR_len l0 l1
 show ((redpencillaw42_alike.f k (undoOfR l0 l1).1 (undoOfR l0 l1).2.1 (undoOfR l0 l1).1 (undoOfR l0 l1).2.1).bind fun t148 => (if t148 = true then (some ((undoOfR l0 l1).2.2 == (undoOfR l0 l1).2.2)) else (some false))) = some true
 rw [alike_self k _ _ (by omega) (by omega) (by omega)]
 simp
end
section
def runeIn (r : Int) : Prop := -9223372036854775808 ≤ r ∧ r ≤ 9223372036854775807
set_option maxHeartbeats 1000000 in
set_option maxRecDepth 100000 in
theorem UndoOf.walk (A0 : Option Addr) (c0 : Nat) (l0 : List Node) (w : World) (hr0 : Kd.C k42 w A0 l0.length l0) (hc0 : l0.length ≤ c0) (hi0 : ∀ x ∈ l0, runeIn x.f3) (A1 : Option Addr) (c1 : Nat) (l1 : List Node) (hr1 : Kd.C k42 w A1 l1.length l1) (hc1 : l1.length ≤ c1) (hi1 : ∀ x ∈ l1, runeIn x.f3) :
  Calls Tryz.prog 3 #[.slice A0 l0.length c0, .slice A1 l1.length c1] w fun e w' => e = .returned (.bool true) ∧ Below w.heap.size w w' := by
 have HKN := za0.mk known42_call
 have hu3 := Tryz.underlying28
 obtain ⟨u1, u2, u3, HU⟩ : ∃ u1 u2 u3, za0 (undoOfR l0 l1 = (u1, u2, u3)) := ⟨_, _, _, ⟨rfl⟩⟩
 have HD : za0 (l0.length ≤ 20 ∧ l1.length ≤ 20 → Calls Tryz.prog 8 #[.slice A0 l0.length c0, .slice A1 l1.length c1] w fun e w' => ∃ v0 v1 : Value, e = .returned (.tuple #[.agg #[v0, v1], .int .i64 u3]) ∧ RD w' w.heap.size v0 u1 ∧ RL w' w.heap.size v1 u2 ∧ Below w.heap.size w w') := ⟨fun h => redpencillaw42_does.calls A0 c0 l0 A1 c1 l1 u1 u2 u3 w hr0 hc0 hr1 hc1 (by unfold redpencillaw42_does.f undo_Of.f; rw [if_pos (by omega), HU.out])⟩
 have HOF : za0 (l0.length ≤ 20 ∧ l1.length ≤ 20 → ∀ (W : World) (Am : Option Addr) (cm : Nat) (Ag : Option Addr) (cg : Nat), Below w.heap.size w W → RD W w.heap.size (.slice Am u1.length cm) u1 → RL W w.heap.size (.slice Ag u2.length cg) u2 → Calls Tryz.prog 9 #[.slice A0 l0.length c0, .slice A1 l1.length c1, .agg #[.slice Am u1.length cm, .slice Ag u2.length cg], .int .i64 u3] W fun e w' => e = .returned (.bool true) ∧ Below W.heap.size W w') := ⟨fun h W Am cm Ag cg hb hm hg => redpencillaw42_of.calls 1000 A0 c0 l0 A1 c1 l1 Am cm u1 Ag cg u2 u3 true W (Kd.C_below hr0 hb) hc0 (Kd.C_below hr1 hb) hc1 (RD.C hm).2.2 (RD.C hm).2.1 (Kd.R_reads' hg).2.2 (Kd.R_reads' hg).2.1 (by have h2 := @of_does 1000 l0 l1 (by omega) (by omega); rwa [HU.out] at h2)⟩
 obtain ⟨n0, Hn0⟩ : ∃ n, za0 (l0.length = n) := ⟨_, ⟨rfl⟩⟩
 obtain ⟨n1, Hn1⟩ : ∃ n, za0 (l1.length = n) := ⟨_, ⟨rfl⟩⟩
 rw [Hn0.out, Hn1.out] at HD HOF ⊢
 clear hr0 hc0 hr1 hc1 hi0 hi1
 go_enter Tryz.func3, Tryz.ntmps3
 by_cases h0 : n0 > 20
 ·
  have g0 : decide ((n0 : Int) > 20) = true := decide_eq_true (by omega)
  go_wp2_with fail
  refine (HKN.out _).mono ?_
  rintro e V ⟨rfl, hb⟩
  go_wp2
  go_ret
  exact ⟨rfl, hb⟩
 have g0 : decide ((n0 : Int) > 20) = false := decide_eq_false (by omega)
 by_cases h1 : n1 > 20
 ·
  have g1 : decide ((n1 : Int) > 20) = true := decide_eq_true (by omega)
  go_wp2_with fail
  refine (HKN.out _).mono ?_
  rintro e V ⟨rfl, hb⟩
  go_wp2
  go_ret
  exact ⟨rfl, hb⟩
 have g1 : decide ((n1 : Int) > 20) = false := decide_eq_false (by omega)
 have HLT : za0 (n0 ≤ 20 ∧ n1 ≤ 20) := ⟨by omega⟩
 go_wp2_with fail
 refine (HD.out HLT.out).mono ?_
 rintro e V ⟨v0, v1, rfl, hm, hg, hb⟩
 obtain ⟨Am, cm, rfl⟩ := RD.slice hm
 obtain ⟨Ag, cg, rfl⟩ := Kd.R_slice hg
 have HM := za0.mk hm
 have HG := za0.mk hg
 have HB := za0.mk hb
 clear hm hg hb HD
 go_upto_region 4 with (fail)
 have hba := za2 (Below.refl V.heap.size V) (chgC (.slice Am u1.length cm) (.slice Ag u2.length cg))
 have HX := za0.mk (zaj V (chgC (.slice Am u1.length cm) (.slice Ag u2.length cg)))
 have HM := za0.mk (RD.below' HM.out hba)
 have HG := za0.mk (Kd.R_below HG.out hba)
 have HB := za0.mk (zaa HB.out hba)
 clear hba
 generalize V.alloc (chgC (.slice Am u1.length cm) (.slice Ag u2.length cg)) = V1 at *
 generalize V.heap.size = gx at *
 have z0 := (za4 HX.out 0).trans rfl
 have z1 := (za4 HX.out 1).trans rfl
 go_wp2_with fail
 refine (HOF.out HLT.out V1 Am cm Ag cg HB.out HM.out HG.out).mono ?_
 rintro e V2 ⟨rfl, hb⟩
 have HB := za0.mk (zaa HB.out hb)
 clear hb z0 z1
 go_wp2_with fail
 refine (HKN.out _).mono ?_
 rintro e V3 ⟨rfl, hb⟩
 go_wp2
 go_ret
 exact ⟨rfl, zaa HB.out hb⟩
end
end Go.Proofs.YtefejajofmpjdaaGreat.PWalk
end
section
namespace Go.Proofs.YtefejajofmpjdaaGreat.undoOf
open Go.ChangeShapes Go.WideShapes Go.ChangeAt Go.RowKit
open Go.ChangeMaps (open_string shut_string)
open Go.Proofs.YtefejajofmpjdaaGreatW.PrintWords
set_option linter.unusedVariables false
section
theorem six_of {α : Type} {cs : List α} (h : cs.length = 6) : ∃ c0 c1 c2 c3 c4 c5, cs = [c0, c1, c2, c3, c4, c5] := by
 match cs, h with
 | [a, b, c, d, e, f], _ => exact ⟨a, b, c, d, e, f, rfl⟩
theorem open_node {H : Type} {enc : TypeId × Value → H} {W : World} {base : Nat} {sp : Nat → Bool} {held : Bool} {fuel : Nat} {cs : List Value} {x : DataW H × List MemPlace} (h : DataW.trod enc Tryz.prog W base sp held fuel 42 cs = some x) :
  ∃ n : PWalk.Node, cs = PWalk.nodeCells n ∧ PWalk.runeIn n.f3 := by
 have e37 : Tryz.prog.cellsOf 42 = 6 := by kernel_rfl
 have e35 : Tryz.prog.cellsOf 39 = 2 := by kernel_rfl
 have e3 : Tryz.prog.cellsOf 3 = 1 := by kernel_rfl
 have e21 : Tryz.prog.cellsOf 21 = 1 := by kernel_rfl
 obtain ⟨y0, y1, y2, y3, n, rfl, hl, h0, h1, h2, h3⟩ := Go.Joins.trod_struct4 Tryz.underlying42 h
 rw [e37] at hl
 obtain ⟨c0, c1, c2, c3, c4, c5, rfl⟩ := six_of hl
 simp only [e35, e3, e21, List.drop_zero, List.drop_succ_cons, List.take_succ_cons, List.take_zero] at h0 h1 h2 h3
 obtain ⟨_, _, _, _, _, g0, g1⟩ := trod_struct2 Tryz.underlying39 h0
 obtain ⟨_, _, _, _, _, g2, g3⟩ := trod_struct2 Tryz.underlying39 h1
 simp only [e3, List.drop_zero, List.drop_succ_cons, List.take_succ_cons, List.take_zero] at g0 g1 g2 g3
 obtain ⟨k0, i0, _, _⟩ := DataW.trod_int Tryz.underlying3 g0
 obtain ⟨k1, i1, _, _⟩ := DataW.trod_int Tryz.underlying3 g1
 obtain ⟨k2, i2, _, _⟩ := DataW.trod_int Tryz.underlying3 g2
 obtain ⟨k3, i3, _, _⟩ := DataW.trod_int Tryz.underlying3 g3
 obtain ⟨k4, i4, _, _⟩ := DataW.trod_int Tryz.underlying3 h2
 obtain ⟨k5, i5, _, hw⟩ := DataW.trod_int Tryz.underlying21 h3
 simp only [List.cons.injEq, and_true] at i0 i1 i2 i3 i4 i5
 subst i0 i1 i2 i3 i4 i5
 refine ⟨⟨⟨k0, k1⟩, ⟨k2, k3⟩, k4, k5⟩, rfl, ?_⟩
 have hw2 : -2147483648 ≤ k5 ∧ k5 ≤ 2147483647 := by simpa [Lit.wf, IntKind.min, IntKind.max, IntKind.signed, IntKind.bits] using hw
 exact ⟨by show _ ≤ k5; omega, by show k5 ≤ _; omega⟩
/-- A []api.Node that came in, nil or not. -/
theorem open_nodes {H : Type} {enc : TypeId × Value → H} {W : World} {A : Option Addr} {len cap : Nat} {x : DataW H × List MemPlace} {fuel : Nat} (h : DataW.trod enc Tryz.prog W 0 (fun _ => true) true fuel 23 [.slice A len cap] = some x) :
  ∃ xs : List PWalk.Node, xs.length = len ∧ Kd.C PWalk.k42 W A len xs ∧ len ≤ cap ∧ ∀ n ∈ xs, PWalk.runeIn n.f3 := by
 have e37 : Tryz.prog.cellsOf 42 = 6 := by kernel_rfl
 rcases Go.Deep.open_slice Tryz.underlying23 h with ⟨hcs, _⟩ | ⟨a, len', cap', m, n, D, Pl, hcs, _, hl, hm, hmm, _, hx⟩
 ·
  simp at hcs
  obtain ⟨rfl, rfl, rfl⟩ := hcs
  exact ⟨[], rfl, ⟨rfl, by omega, fun hp => absurd hp (by omega)⟩, Nat.le_refl _, fun n hn => by cases hn⟩
 ·
  simp at hcs
  obtain ⟨rfl, rfl, rfl⟩ := hcs
  simp only [if_true] at hmm
  subst hmm
  rw [e37] at hx
  haveI : Inhabited PWalk.Node := ⟨⟨⟨0, 0⟩, ⟨0, 0⟩, 0, 0⟩⟩
  obtain ⟨N, hN⟩ := Go.Deep.choose_lt (α := PWalk.Node) (n := len) (p := fun i nd => PWalk.runeIn nd.f3 ∧ ∀ j u, (PWalk.nodeCells nd)[j]? = some u → W.cell? (a.add (i * 6 + j)) = some u) (fun i hi => by
   obtain ⟨cs', h1, h2⟩ := hx i (by omega)
   obtain ⟨nd, rfl, hr⟩ := open_node h2
   refine ⟨nd, hr, fun j u hu => ?_⟩
   obtain ⟨_, hlen, hc⟩ := World.cells?_some h1
   have hj : j < 6 := (List.getElem?_eq_some_iff.1 hu).1
   rw [← Addr.add_add a (i * 6) j]
   rw [← hu]
   exact hc j (by simpa using hj))
  refine ⟨(List.range len).map N, by simp, ⟨by simp, Nat.le_trans hl hm, fun hp => ⟨a, rfl, fun i nd hi => ?_⟩⟩, hl, fun nd hnd => ?_⟩
  ·
   have hil : i < len := by simpa using (List.getElem?_eq_some_iff.1 hi).1
   have hnd : nd = N i := by simpa [hil] using hi.symm
   subst hnd
   refine ⟨PWalk.nodeCells (N i), rfl, PWalk.k42.K_of_M (PWalk.k42_mkM W 0 (fun _ => True) (N i)), fun j u hu => (hN i hil).2 j u hu⟩
  ·
   obtain ⟨i, hi, rfl⟩ := List.mem_map.1 hnd
   exact (hN i (by simpa using hi)).1
theorem own : ownKnob Tryz.prog.godebug = none := by kernel_rfl
theorem laidOut : laidOutB Tryz.prog = true := by kernel_rfl
set_option maxRecDepth 100000 in
set_option maxHeartbeats 2000000 in
theorem lifted (os : Os) (started : os.Started) (H : Type) (enc : TypeId × Value → H) :
  ReturnsInHanded {} Tryz.checked os 3 .any (Rows.undoOfSpec.pre6 enc Tryz.prog Tryz.f3 Rows.undoOfRow.domain false) (Rows.undoOfSpec.post enc Tryz.prog Tryz.f3 false true false false) := by
 refine returnsInHanded_of_change_sized (C := Tryz.checked) own started (by kernel_rfl) Tryz.func3
  (ChangeSpec.witness6 (enc := enc) (C := Tryz.checked) false ⟨#[], #[.slice none 0 0, .slice none 0 0], []⟩ 8 (by kernel_rfl) (by kernel_rfl) (by kernel_rfl) (by kernel_rfl)) ?_
 intro W base args ds gs before hval0 hW hcnd hsz0 _
 have hval : ∀ (j : Nat) t v, Tryz.f3.params[j]? = some t → args[j]? = some v → Value.okWide Tryz.prog W .any base t v := hval0
 have hW' := hW
 obtain ⟨p, q, hA0, hV, rfl, hfz, hnd⟩ := hW
 have hA : DataW.TrodAll enc Tryz.prog W 0 (fun _ => true) true Tryz.f3.params.toList args.toList ds p := hA0
 rw [Tryz.params3] at hA hval
 obtain ⟨v0, vs0, d0, ds0, p0, q0, hargs, rfl, rfl, h0, r0⟩ := trodAll_cons hA
 obtain ⟨v1, vs1, d1, ds1, p1, q1, rfl, rfl, rfl, h1, r1⟩ := trodAll_cons r0
 obtain ⟨rfl, rfl, rfl⟩ := trodAll_nil r1
 obtain rfl : args = #[v0, v1] := by cases args; simp_all
 obtain ⟨rfl, rfl⟩ := trodVars_none hV
 obtain ⟨A0, len0, cap0, rfl⟩ := okWide_slice Tryz.underlying23 (hval 0 23 v0 rfl rfl)
 have k0 := h0
 have lt0 : ∀ x ∈ p0, x.block < W.heap.size := by obtain ⟨m, hm⟩ := k0; exact DataW.trod_lt m _ _ _ hm
 obtain ⟨f0, hf0⟩ := h0
 obtain ⟨xs0, rfl, hr0, hc0, hi0⟩ := open_nodes hf0
 obtain ⟨A1, len1, cap1, rfl⟩ := okWide_slice Tryz.underlying23 (hval 1 23 v1 rfl rfl)
 have k1 := h1
 have lt1 : ∀ x ∈ p1, x.block < W.heap.size := by obtain ⟨m, hm⟩ := k1; exact DataW.trod_lt m _ _ _ hm
 obtain ⟨f1, hf1⟩ := h1
 obtain ⟨xs1, rfl, hr1, hc1, hi1⟩ := open_nodes hf1
 clear hA0 hval0 hsz0
 refine (PWalk.UndoOf.walk A0 cap0 xs0 W hr0 hc0 hi0 A1 cap1 xs1 hr1 hc1 hi1).mono fun e W' ⟨he, bel⟩ => ?_
 subst he
 exact ⟨_, rfl, _, _, _, [], _, [], hW', trodAll_mk1 (shut_bool Tryz.underlying4 _), (trodAll_cons_mk (Below.trod laidOut (by kernel_rfl) (of_decide_eq_true (by kernel_rfl)) k0 bel lt0) (trodAll_cons_mk (Below.trod laidOut (by kernel_rfl) (of_decide_eq_true (by kernel_rfl)) k1 bel lt1) trodAll_mk0)), rfl, bel.frame _, fun h => by cases h⟩
theorem over : Rows.undoOfRow.holds Tryz.pinned (OpenSpec.ofChange Rows.undoOfSpec) :=
 OpenClaim.holds_of_wide 3 Tryz.f3 rfl rfl rfl rfl rfl rfl rfl ⟨rfl, rfl, rfl, rfl, rfl⟩ rfl rfl rfl rfl rfl (by kernel_rfl) Tryz.func3 (by kernel_rfl)
  (of_decide_eq_true (by kernel_rfl)) (by unfold Func.isWrapper; first | (rw [if_pos (by decide +kernel)]; kernel_rfl) | (rw [if_neg (by decide +kernel)]; exact ⟨rfl, rfl⟩))
  (fun os started H enc _ => lifted os started H enc)
theorem proved : Rows.UndoOfSaid := over
#print axioms proved
end
end Go.Proofs.YtefejajofmpjdaaGreat.undoOf
end
