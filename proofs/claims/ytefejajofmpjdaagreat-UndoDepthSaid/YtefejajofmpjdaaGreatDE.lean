/-
  As many changes as can be undone, and more. Part 5 of 10.
-/
import Derived.Test.YtefejajofmpjdaaGreatDD
import Derived.Sort.LoopGhostIn
import Derived.Sort.QuietTacIn
import Derived.OrdersIn
section
namespace Go.Proofs.YtefejajofmpjdaaGreat.PWalk
open Go.RowKit Go.Proofs.YtefejajofmpjdaaGreatW.PrintWords Go.Proofs.YtefejajofmpjdaaGreatW.PrintLast Go.Proofs.YtefejajofmpjdaaGreatW.PrintMore
set_option linter.unusedVariables false
set_option linter.unusedSimpArgs false
open Go.Shelf
attribute [local go_sem] Oper.semAt_some
section
theorem KpE.grown2 {n : Nat} {E : Nat → Prop} {W W' : World} {row : Option Nat} (h : W.grownBy W' row) (hr : ∀ r, row = some r → r < n → E r) (hn : n ≤ W.heap.size) : KpE n E W W' :=
 ⟨h.size, fun i hi he => h.block i (by omega) (fun e => he (hr i e.symm hi))⟩
set_option maxRecDepth 100000 in
theorem new_call (w : World) : Calls Tryz.prog 89 #[cmpV] w fun e w' => e = .returned (.pointer (some ⟨w.heap.size, 0, none⟩)) ∧ w' = w.alloc (.cells #[cmpV, .slice none 0 0] 159) := by
 have hq := eql_func_nil
 go_enter Tryz.func89, Tryz.ntmps89
 go_wp2
 go_ret
 exact ⟨rfl, rfl⟩
theorem op_append_node {o : Oper} {a : Act} {K : Act → World → Prop} {Q : Exit → Act → World → Prop} {W : World} (base : Nat) (hgd : o.guard = none) (s x : Operand)
  (ho : o.op = .call { callee := .builtin .append, args := #[s, x], argTypes := #[22, 22] }) (v : Value) (xs ys : List Node) (A : Option Addr) (m c : Nat) (hs : a.eval s = v) (hx : a.eval x = .slice A m c)
  (hr : RN W base v xs) (hc : Kd.C k42 W A m ys) (hb : base ≤ W.heap.size) (hl : xs.length + m ≤ 1000000)
  (h : ∀ v1 w1, RN w1 base v1 (xs ++ ys) → W.grownBy w1 v.ownBlock → (v1.ownBlock = v.ownBlock ∨ ∃ b, v1.ownBlock = some b ∧ W.heap.size ≤ b) → K (a.put o.dst v1) w1) : o.wp Tryz.prog a W K Q := by
 have hw : Region.wanted o (yielded #[] a.tmps) = true := by simp [Region.wanted, hgd]
 have := Kd.R_append_rows_step (P := Tryz.prog) (ops := #[]) (Q := Q) (Kc := K) k42 (w0 := W) base hw s x 22 42 (.agg #[(.int .i64 0), (.int .i64 0), (.int .i64 0), (.int .i64 0), (.int .i64 0), (.int .i32 0)]) 48 ho Tryz.underlying22 info42 rfl (by decide) (by decide) v xs ys A m c (fun _ => True) (fun _ => False) hs hx hr hc (fun x cs h => (by rw [k42_open h]; exact k42_mkM _ _ _ x)) (fun _ hk => hk.elim) (fun _ _ => trivial) (Below.refl _ _) hb (by omega)
  (fun v1 w1 h1 _ h3 h4 => h v1 w1 h1 h3 h4)
 rwa [if_pos hw] at this
abbrev boxN (x : Node) : Obj := .cells #[.int .i64 x.f0.f0, .int .i64 x.f0.f1, .int .i64 x.f1.f0, .int .i64 x.f1.f1, .int .i64 x.f2, .int .i32 x.f3] 42 (0, 0)
abbrev boxF (mp : Nat) : Obj := .cells #[.pointer (some ⟨mp, 0, none⟩)] 116 (0, 0)
theorem boxN_C {W : World} {g : Nat} {x : Node} (h : W.heap[g]? = some (boxN x)) : Kd.C k42 W (some ⟨g, 0, none⟩) 1 [x] := by
 refine ⟨rfl, by simp, fun _ => ⟨_, rfl, fun i y hi => ?_⟩⟩
 have h0 : i = 0 := by
  have := (List.getElem?_eq_some_iff.1 hi).1
  simp at this; exact this
 subst h0
 simp at hi
 subst hi
 refine ⟨zar x, rfl, k42.K_of_M (k42_mkM W 0 (fun _ => True) x), fun j u hu => ?_⟩
 rw [show (⟨g, 0, none⟩ : Addr).add (0 * (k42).sz + j) = ⟨g, j, none⟩ by rw [Nat.zero_mul, Nat.zero_add, add_lit, Nat.zero_add]]
 rw [za4 h, ← Array.getElem?_toList]
 exact hu
/-- The operations of one round, by what has come up. -/
structure MkF (base : Nat) (W0 : World) (F Nb mp : Nat) (v : Value) (ks : List Dot) (vs : List Value) (fam : Dot → List Node) (x : Node) (l1 l3 l5 l6 l7 l8 : Bool) (g : Nat) (u1 : Value) (V : World) : Prop where
 ord6 : l6 = true → l5 = true
 ord7 : l7 = true → l5 = true ∧ l6 = true
 ord8 : l8 = true → l1 = true ∧ l3 = true ∧ l7 = true
 low : l8 = false → V.heap[F]? = some (boxF mp) ∧ V.heap[Nb]? = some (boxN x)
 pre : l7 = false → Below W0.heap.size W0 V
 ent : l6 = true → l7 = false → W0.heap.size ≤ g ∧ V.heap[g]? = some (boxN x)
 mid : l7 = true → l8 = false → RN V base u1 (fam x.f1 ++ [x]) ∧ Tch (fun i => (getV ks vs x.f1).ownBlock = some i) W0 V ∧ (u1.ownBlock = (getV ks vs x.f1).ownBlock ∨ ∃ b, u1.ownBlock = some b ∧ W0.heap.size ≤ b)
 fin : l8 = true → ∃ v', FamSt base V mp v' (setKs ks x.f1) (setVs ks vs x.f1 u1) (fun e => if e = x.f1 then fam x.f1 ++ [x] else fam e) ∧ Tch (fun i => MapBl mp v i ∨ (getV ks vs x.f1).ownBlock = some i) W0 V
theorem MkF.no7 {base : Nat} {W0 : World} {F Nb mp : Nat} {v : Value} {ks : List Dot} {vs : List Value} {fam : Dot → List Node} {x : Node} {l1 l3 l5 l6 l7 l8 : Bool} {g : Nat} {u1 : Value} {V : World} (h : MkF base W0 F Nb mp v ks vs fam x l1 l3 l5 l6 l7 l8 g u1 V) (hl : l5 = false ∨ l6 = false ∨ l7 = false) : l7 = false ∧ l8 = false := by
 have h7 : l7 = false := by
  cases l7 with
  | false => rfl
  | true =>
   obtain ⟨h1, h2⟩ := h.ord7 rfl
   rcases hl with hl | hl | hl
   ·
    rw [hl] at h1; cases h1
   ·
    rw [hl] at h2; cases h2
   ·
    cases hl
 refine ⟨h7, ?_⟩
 cases l8 with
 | false => rfl
 | true => have := (h.ord8 rfl).2.2; rw [h7] at this; cases this
theorem MkF.no8 {base : Nat} {W0 : World} {F Nb mp : Nat} {v : Value} {ks : List Dot} {vs : List Value} {fam : Dot → List Node} {x : Node} {l1 l3 l5 l6 l7 l8 : Bool} {g : Nat} {u1 : Value} {V : World} (h : MkF base W0 F Nb mp v ks vs fam x l1 l3 l5 l6 l7 l8 g u1 V) (hl : l1 = false ∨ l3 = false) : l8 = false := by
 cases l8 with
 | false => rfl
 | true =>
  obtain ⟨h1, h2, _⟩ := h.ord8 rfl
  rcases hl with hl | hl
  ·
   rw [hl] at h1; cases h1
  ·
   rw [hl] at h2; cases h2
/-- What Set leaves behind, after the append. -/
theorem mk_set {base mp : Nat} {v : Value} {ks : List Dot} {vs : List Value} {fam : Dot → List Node} {x : Node} {u1 : Value} {Au : Option Addr} {nu cu : Nat} {W0 V V' : World} {v' : Value} (hu1 : u1 = .slice Au nu cu) (hF : FamSt base W0 mp v ks vs fam)
  (hr : RN V base u1 (fam x.f1 ++ [x])) (ht : Tch (fun i => (getV ks vs x.f1).ownBlock = some i) W0 V) (hub : u1.ownBlock = (getV ks vs x.f1).ownBlock ∨ ∃ b, u1.ownBlock = some b ∧ W0.heap.size ≤ b)
  (hm : MapSt base V' mp v' (setKs ks x.f1) (setVs ks vs x.f1 u1)) (ht2 : Tch (MapBl mp v) V V') :
  FamSt base V' mp v' (setKs ks x.f1) (setVs ks vs x.f1 u1) (fun e => if e = x.f1 then fam x.f1 ++ [x] else fam e) ∧ Tch (fun i => MapBl mp v i ∨ (getV ks vs x.f1).ownBlock = some i) W0 V' := by
 have hnot : ∀ g, g < V.heap.size → (∃ cur, V.heap[g]? = some (.cells cur 42 (0, 0))) → ¬ MapBl mp v g := by
  rintro g hg ⟨cur, hc⟩ (rfl | e)
  ·
   have hmp := hF.map.map
   have := ht.block g (zae hmp) (fun e => by
    obtain ⟨_, cur2, h2⟩ := (hF.getR x.f1).block e
    rw [hmp] at h2
    exact absurd (Obj.cells.inj (Option.some.inj h2)).2.1 (by decide))
   rw [this, hmp] at hc
   exact absurd (Obj.cells.inj (Option.some.inj hc)).2.1 (by decide)
  ·
   rcases hF.map.row.2 with ⟨rfl, _⟩ | ⟨g', c, cur', rfl, _, hcur, _⟩
   ·
    cases e
   ·
    cases e
    have := ht.block g' (zae hcur) (fun e => by
     obtain ⟨_, cur2, h2⟩ := (hF.getR x.f1).block e
     rw [hcur] at h2
     exact absurd (Obj.cells.inj (Option.some.inj h2)).2.1 (by decide))
    rw [show (⟨g', 0, none⟩ : Addr).block = g' from rfl] at hc
    rw [this, hcur] at hc
    exact absurd (Obj.cells.inj (Option.some.inj hc)).2.1 (by decide)
 refine ⟨hF.set hm (hr.keep fun g hg => ?_) (fun g hg hne hc => ?_) hub, (ht.mono fun i _ h => Or.inr h).trans (ht2.mono fun i _ h => Or.inl h) (fun i _ h => h)⟩
 ·
  exact ht2.block g (hr.lt hg) (hnot g (hr.lt hg) (hr.block hg).2)
 ·
  have h1 := ht.block g hg hne
  refine (ht2.block g (Nat.lt_of_lt_of_le hg ht.size) (hnot g (Nat.lt_of_lt_of_le hg ht.size) ?_)).trans h1
  obtain ⟨cur, hc⟩ := hc
  exact ⟨cur, h1.trans hc⟩
def famOf (l : List Node) (d : Dot) : List Node := l.filter fun x => decide (x.f1 = d)
theorem famOf_succ {l : List Node} {m : Nat} {x : Node} (h : l[m]? = some x) : famOf (l.take (m + 1)) = fun e => if e = x.f1 then famOf (l.take m) x.f1 ++ [x] else famOf (l.take m) e := by
 have hm : m < l.length := (List.getElem?_eq_some_iff.1 h).1
 have hx := (List.getElem?_eq_some_iff.1 h).2
 funext e
 unfold famOf
 rw [List.take_succ_eq_append_getElem hm, hx, List.filter_append]
 by_cases he : e = x.f1
 ·
  subst he; rw [if_pos rfl]; simp
 ·
  have hne : ¬ x.f1 = e := fun h => he h.symm
  rw [if_neg he]; simp [hne]
theorem FamSt.mapT {base : Nat} {W V : World} {mp : Nat} {v : Value} {ks : List Dot} {vs : List Value} {fam : Dot → List Node} (h : FamSt base W mp v ks vs fam) {d : Dot} (ht : Tch (fun i => (getV ks vs d).ownBlock = some i) W V) : MapSt base V mp v ks vs := by
 have hno : ∀ i, MapBl mp v i → (getV ks vs d).ownBlock ≠ some i := fun i hi e => by
  obtain ⟨_, cur, hc⟩ := (h.getR d).block e
  exact h.map.not_row hc hi
 refine h.map.keep (ht.block mp (zae h.map.map) (hno mp (.inl rfl))) (fun g hg => ht.block g ?_ (hno g (.inr hg)))
 rcases h.map.row.2 with ⟨rfl, _⟩ | ⟨g', c, cur, rfl, _, hcur, _⟩
 ·
  cases hg
 ·
  cases hg; exact zae hcur
theorem mk_app {base : Nat} {W0 : World} {F Nb mp : Nat} {v : Value} {ks : List Dot} {vs : List Value} {fam : Dot → List Node} {x : Node} {l1 l3 : Bool} {g : Nat} {u u0 v1 : Value} {V w1 : World} (hu : u = getV ks vs x.f1) (hR : RN W0 base u (fam x.f1)) (hN : ∀ q, u.ownBlock = some q → q ≠ Nb)
  (h : MkF base W0 F Nb mp v ks vs fam x l1 l3 true true false false g u0 V) (hr1 : RN w1 base v1 (fam x.f1 ++ [x])) (hg1 : V.grownBy w1 u.ownBlock) (hb1 : v1.ownBlock = u.ownBlock ∨ ∃ b, v1.ownBlock = some b ∧ V.heap.size ≤ b) :
  MkF base W0 F Nb mp v ks vs fam x l1 l3 true true true false g v1 w1 := by
 subst hu
 have hpre := h.pre rfl
 obtain ⟨hf, hn⟩ := h.low rfl
 refine ⟨fun _ => rfl, fun _ => ⟨rfl, rfl⟩, fun h => (by cases h), fun _ => ⟨(hg1.block F (zae hf) (fun e => ?_)).trans hf, (hg1.block Nb (zae hn) (fun e => hN Nb e.symm rfl)).trans hn⟩, fun h => (by cases h), fun _ h => (by cases h), fun _ _ => ⟨hr1, (Tch.below hpre).trans (Tch.grown hg1 (fun r e => e)) (fun i _ e => e), hb1.imp id fun ⟨b, e, hb⟩ => ⟨b, e, Nat.le_trans hpre.size hb⟩⟩, fun h => (by cases h)⟩
 obtain ⟨_, cur, hc⟩ := hR.block e.symm
 have h2 := (hpre.block F (zae hc)).trans hc
 rw [hf] at h2
 exact absurd (Obj.cells.inj (Option.some.inj h2)).2.1 (by decide)
theorem setKs_le (ks : List Dot) (d : Dot) : (setKs ks d).length ≤ ks.length + 1 := by
 by_cases h : hasK ks d = true
 ·
  unfold setKs; rw [if_pos h]; omega
 ·
  exact Nat.le_of_eq (setKs_len (by simpa using h))
theorem FamSt.far {base : Nat} {W : World} {mp : Nat} {v : Value} {ks : List Dot} {vs : List Value} {fam : Dot → List Node} (h : FamSt base W mp v ks vs fam) {q : Nat} {cells : Array Value} {t : Nat} (hq : W.heap[q]? = some (.cells cells t (0, 0))) (ht : t ≠ 159 ∧ t ≠ 162 ∧ t ≠ 42) (d : Dot) : ¬ (MapBl mp v q ∨ (getV ks vs d).ownBlock = some q) := by
 rintro ((rfl | e) | e)
 ·
  rw [h.map.map] at hq
  exact ht.1 (Obj.cells.inj (Option.some.inj hq)).2.1.symm
 ·
  rcases h.map.row.2 with ⟨rfl, _⟩ | ⟨g', c, cur', rfl, _, hcur, _⟩
  ·
   cases e
  ·
   cases e
   rw [hcur] at hq
   exact ht.2.1 (Obj.cells.inj (Option.some.inj hq)).2.1.symm
 ·
  obtain ⟨_, cur, hc⟩ := (h.getR d).block e
  rw [hc] at hq
  exact ht.2.2 (Obj.cells.inj (Option.some.inj hq)).2.1.symm
theorem FamSt.base_le {base : Nat} {W : World} {mp : Nat} {v : Value} {ks : List Dot} {vs : List Value} {fam : Dot → List Node} (h : FamSt base W mp v ks vs fam) {d : Dot} {i : Nat} (hi : MapBl mp v i ∨ (getV ks vs d).ownBlock = some i) : base ≤ i :=
 hi.elim (h.map.base_le ·) (fun e => ((h.getR d).block e).1)
theorem nodup_inj {α : Type} {l : List α} (h : l.Nodup) {i j : Nat} {a : α} (hi : l[i]? = some a) (hj : l[j]? = some a) : i = j := by
 obtain ⟨h1, h2⟩ := List.getElem?_eq_some_iff.1 hi
 obtain ⟨h3, h4⟩ := List.getElem?_eq_some_iff.1 hj
 have hp := List.pairwise_iff_getElem.1 h
 rcases Nat.lt_trichotomy i j with hl | hl | hl
 ·
  exact absurd (h2.trans h4.symm) (hp i j h1 h3 hl)
 ·
  exact hl
 ·
  exact absurd (h4.trans h2.symm) (hp j i h3 h1 hl)
theorem famOf_ne {l : List Node} {m : Nat} {x : Node} (h : l[m]? = some x) {ks : List Dot} (hk : ∀ d ∈ ks, famOf (l.take m) d ≠ []) : ∀ d ∈ setKs ks x.f1, famOf (l.take (m + 1)) d ≠ [] := by
 intro d hd
 rw [famOf_succ h]
 show (if d = x.f1 then _ else _) ≠ _
 by_cases he : d = x.f1
 ·
  rw [if_pos he]; simp
 ·
  rw [if_neg he]
  refine hk d ?_
  unfold setKs at hd
  split at hd
  ·
   exact hd
  ·
   rcases List.mem_append.1 hd with hd | hd
   ·
    exact List.mem_of_mem_take hd
   ·
    rcases List.mem_cons.1 hd with hd | hd
    ·
     exact absurd hd he
    ·
     exact List.mem_of_mem_drop hd
theorem FamSt.cells {base : Nat} {W V : World} {mp : Nat} {v : Value} {ks : List Dot} {vs : List Value} {fam : Dot → List Node} (h : FamSt base W mp v ks vs fam) (hk : ∀ (q : Nat) (cells : Array Value) (t : Nat), t ≠ 116 → W.heap[q]? = some (Obj.cells cells t (0, 0)) → V.heap[q]? = W.heap[q]?) : FamSt base V mp v ks vs fam := by
 refine ⟨h.map.keep (hk mp _ _ (by decide) h.map.map) (fun g hgg => ?_), fun d u hm => (h.rows d u hm).keep (fun g hgg => ?_), h.sep, h.none⟩
 ·
  rcases h.map.row.2 with ⟨rfl, _⟩ | ⟨g', c, cur, rfl, _, hcur, _⟩
  ·
   cases hgg
  ·
   cases hgg; exact hk _ _ _ (by decide) hcur
 ·
  obtain ⟨_, cur, hcur⟩ := (h.rows d u hm).block hgg
  exact hk _ _ _ (by decide) hcur
/-- One row is turned. -/
theorem FamSt.turn {base : Nat} {W V : World} {mp : Nat} {v : Value} {ks : List Dot} {vs : List Value} {fam : Dot → List Node} (h : FamSt base W mp v ks vs fam) {d : Dot} {u : Value} {ys : List Node} {k : Nat}
  (hk : ks[k]? = some d) (hv : vs[k]? = some u) (hu : RN V base u ys) (ht : Tch (fun i => u.ownBlock = some i) W V) : FamSt base V mp v ks vs (fun e => if e = d then ys else fam e) := by
 have hm : (d, u) ∈ ks.zip vs := List.mem_of_getElem? (i := k) (by rw [List.getElem?_zip_eq_some]; exact ⟨hk, hv⟩)
 have hr := h.rows d u hm
 have hnd := incB_nodup h.map.inc
 have hno : ∀ i, MapBl mp v i → u.ownBlock ≠ some i := fun i hi e => by
  obtain ⟨_, cur, hc⟩ := hr.block e
  exact h.map.not_row hc hi
 have hat : ∀ e a, (e, a) ∈ ks.zip vs → e ≠ d → Sep u a := by
  intro e a hea hed
  obtain ⟨j, hj⟩ := List.getElem?_of_mem hea
  rw [List.getElem?_zip_eq_some] at hj
  have hjk : j ≠ k := fun e => by subst e; rw [hk] at hj; exact hed (Option.some.inj hj.1).symm
  obtain ⟨hk1, hk2⟩ := List.getElem?_eq_some_iff.1 hv
  obtain ⟨hj1, hj2⟩ := List.getElem?_eq_some_iff.1 hj.2
  have hp := List.pairwise_iff_getElem.1 h.sep
  rcases Nat.lt_or_gt_of_ne hjk with hl | hl
  ·
   have := hp j k hj1 hk1 hl
   rw [hk2, hj2] at this
   exact this.symm
  ·
   have := hp k j hk1 hj1 hl
   rw [hk2, hj2] at this
   exact this
 have hsame : ∀ a, (d, a) ∈ ks.zip vs → a = u := by
  intro a ha
  obtain ⟨j, hj⟩ := List.getElem?_of_mem ha
  rw [List.getElem?_zip_eq_some] at hj
  have : j = k := nodup_inj hnd hj.1 hk
  subst this
  rw [hv] at hj
  exact (Option.some.inj hj.2).symm
 refine ⟨h.map.keep (ht.block mp (zae h.map.map) (hno mp (.inl rfl))) (fun g hg => ht.block g ?_ (hno g (.inr hg))), ?_, h.sep, ?_⟩
 ·
  rcases h.map.row.2 with ⟨rfl, _⟩ | ⟨g', c, cur, rfl, _, hcur, _⟩
  ·
   cases hg
  ·
   cases hg; exact zae hcur
 ·
  intro e a hea
  show RN V base a (if e = d then ys else fam e)
  by_cases he : e = d
  ·
   subst he
   rw [if_pos rfl, hsame a hea]; exact hu
  ·
   rw [if_neg he]
   have h1 := h.rows e a hea
   exact h1.keep fun g hg => ht.block g (h1.lt hg) (fun e' => hat e a hea he g e' hg)
 ·
  intro e he
  show (if e = d then ys else fam e) = []
  rw [if_neg (fun e' => he (by rw [e']; exact List.mem_of_getElem? hk))]
  exact h.none e he
def famK (l : List Node) (ks : List Dot) (k : Nat) (d : Dot) : List Node := if d ∈ ks.take k then sortN (famOf l d) else famOf l d
theorem famK_succ {l : List Node} {ks : List Dot} {k : Nat} {d : Dot} (h : ks[k]? = some d) : famK l ks (k + 1) = fun e => if e = d then sortN (famOf l d) else famK l ks k e := by
 have hk := (List.getElem?_eq_some_iff.1 h).1
 have hd := (List.getElem?_eq_some_iff.1 h).2
 funext e
 unfold famK
 rw [List.take_succ_eq_append_getElem hk, hd]
 by_cases he : e = d
 ·
  subst he; rw [if_pos rfl, if_pos (by simp)]
 ·
  rw [if_neg he]
  by_cases hm : e ∈ ks.take k
  ·
   rw [if_pos hm, if_pos (List.mem_append_left _ hm)]
  ·
   rw [if_neg hm, if_neg (by simp [hm, he])]
theorem famK_at {l : List Node} {ks : List Dot} {k : Nat} {d : Dot} (hi : ks.Nodup) (h : ks[k]? = some d) : famK l ks k d = famOf l d := by
 unfold famK
 rw [if_neg]
 intro hm
 obtain ⟨j, hj⟩ := List.getElem?_of_mem hm
 rw [List.getElem?_take] at hj
 split at hj
 ·
  rename_i hjk
  have := nodup_inj hi hj h
  omega
 ·
  cases hj
theorem leaves_of_marks2 {P : Program} {fn : Func} {tmps : Array Value} {R : Ending → World → Prop} {n0 n : Nat} : ∀ (ds : List Deferred) (W : World), Marks n0 ds W → (∀ W', OnlyMarks n0 W W' → ∃ v, (results fn tmps).run P W' = .ok v W' ∧ R (.returned v) W') → LeavesInM Fence.wide n P fn tmps R ds .returning W := by
 intro ds
 induction ds with
 | nil => intro W _ hR; obtain ⟨v, h1, h2⟩ := hR W (OnlyMarks.refl _ _); exact ⟨v, h1, h2⟩
 | cons d ds ih =>
  intro W hm hR
  obtain ⟨Ds, he, h1, h2⟩ := hm
  cases Ds with
  | nil => simp at he
  | cons D Ds =>
   simp only [List.map_cons, List.cons.injEq] at he
   obtain ⟨rfl, rfl⟩ := he
   obtain ⟨hD, hW⟩ := h2 D List.mem_cons_self
   refine ⟨by simp, .inl ⟨D, _, rfl, run_takeDeferred hW, ?_⟩⟩
   refine ih _ ⟨Ds, rfl, (List.nodup_cons.1 h1).2, fun E hE => ?_⟩ (fun W' hW' => hR W' (hW'.step hD hW))
   obtain ⟨e1, e2⟩ := h2 E (List.mem_cons_of_mem _ hE)
   exact ⟨e1, (World.putObj_heap_other (fun e => by subst e; exact (List.nodup_cons.1 h1).1 hE)).trans e2⟩
theorem below_setCell {w W : World} (h : Below w.heap.size w W) {g : Nat} (hg : w.heap.size ≤ g) (i : Nat) (v : Value) : Below w.heap.size w (W.setCell ⟨g, i, none⟩ v) :=
 h.grown (row := some g) ⟨rfl, rfl, rfl, by rw [World.size_setCell]; exact Nat.le_refl _, fun k hk hne => Below.heap_setCell W _ _ k (fun e => hne (by rw [e]))⟩ h.size (fun j e => by cases e; exact hg)
def madeInv (base : Nat) (W0 : World) (A0 : Option Addr) (n c0 RC F Nb mp : Nat) (v : Value) (ks : List Dot) (vs : List Value) (fam : Dot → List Node) (x : Node) (u : Value) (z7 z8 z9 z10 z11 z12 z13 z14 z15 z16 z17 z18 z19 z20 z21 z22 z23 z24 z25 z26 z27 z28 z29 z30 z31 z32 z33 z34 z35 z36 z37 z38 z39 z40 z41 z42 z43 : Value) (L : Array Bool) (ac : Act) (V : World) : Prop := ∃ (l0 l1 l2 l3 l4 l5 l6 l7 l8 : Bool) (g : Nat) (u1 : Value) (rr : Value), L = #[l0, l1, l2, l3, l4, l5, l6, l7, l8] ∧ ac = { tmps := #[.slice A0 n c0, undef, .pointer (some ⟨RC, 0, none⟩), .pointer (some ⟨F, 0, none⟩), undef, .pointer (some ⟨Nb, 0, none⟩), u, z7, z8, z9, z10, z11, z12, z13, z14, z15, z16, z17, z18, z19, z20, z21, z22, z23, z24, z25, selv l0 (.pointer (some ⟨F, 0, none⟩)) (z26), selv l1 (.pointer (some ⟨mp, 0, none⟩)) (z27), selv l2 (.pointer (some ⟨Nb, 2, none⟩)) (z28), selv l3 (vDot x.f1) (z29), selv l4 (u) (z30), selv l5 (vNode x) (z31), selv l6 (.slice (some ⟨g, 0, none⟩) 1 1) (z32), selv l7 (u1) (z33), selv l8 (rr) (z34), z35, z36, z37, z38, z39, z40, z41, z42, z43], defers := [] } ∧ za0 (MkF base W0 F Nb mp v ks vs fam x l1 l3 l5 l6 l7 l8 g u1 V)
set_option maxHeartbeats 2000000 in
set_option maxRecDepth 100000 in
theorem made_walk (A0 : Option Addr) (c0 : Nat) (l0 : List Node) (w : World) (hr0 : Kd.C k42 w A0 l0.length l0) (hc0 : l0.length ≤ c0) (hl : l0.length ≤ 1000000) (huq : ∀ x ∈ l0, ∀ y ∈ l0, x.f0 = y.f0 → x = y) :
  Calls Tryz.prog 69 #[.slice A0 l0.length c0] w fun e w' => ∃ mp, e = .returned (.agg #[.pointer (some ⟨mp, 0, none⟩)]) ∧ (∃ v ks vs, FamSt w.heap.size w' mp v ks vs (kids l0)) ∧ Below w.heap.size w w' := by
 have HR := za0.mk hr0
 have HC := za0.mk hc0
 have HL := za0.mk hl
 have HUQ := za0.mk huq
 clear hr0 hc0 hl huq
 obtain ⟨n, Hn⟩ : ∃ n, za0 (l0.length = n) := ⟨_, ⟨rfl⟩⟩
 rw [Hn.out]
 refine calls_of_wp_m Tryz.func69 rfl ?_
 simp only [Tryz.ntmps69, List.size_toArray, List.length_cons, List.length_nil, Nat.reduceAdd, Nat.reduceSub, Array.replicate_succ, Array.replicate_zero, List.push_toArray, List.append_toArray, List.nil_append, List.cons_append]
 go_wp2_with fail
 refine (new_call _).mono ?_
 rintro e w1 ⟨rfl, rfl⟩
 go_wp2_with fail
 have hmp0 : (((w.alloc (.cells #[.pointer none] 116 (0, 0))).alloc (.cells #[cmpV, .slice none 0 0] 159 (0, 0))).alloc (.cells #[.pointer (some ⟨w.heap.size + 1, 0, none⟩)] 116 (0, 0))).heap[w.heap.size + 1]? = some (.cells #[cmpV, .slice none 0 0] 159 (0, 0)) := za6 (by have := zaj (w.alloc (.cells #[.pointer none] 116 (0, 0))) (.cells #[cmpV, .slice none 0 0] 159 (0, 0)); rwa [World.size_alloc] at this) _
 have hF0 : (((w.alloc (.cells #[.pointer none] 116 (0, 0))).alloc (.cells #[cmpV, .slice none 0 0] 159 (0, 0))).alloc (.cells #[.pointer (some ⟨w.heap.size + 1, 0, none⟩)] 116 (0, 0))).heap[w.heap.size + 1 + 1]? = some (.cells #[.pointer (some ⟨w.heap.size + 1, 0, none⟩)] 116 (0, 0)) := by have := zaj ((w.alloc (.cells #[.pointer none] 116 (0, 0))).alloc (.cells #[cmpV, .slice none 0 0] 159 (0, 0))) (.cells #[.pointer (some ⟨w.heap.size + 1, 0, none⟩)] 116 (0, 0)); rwa [World.size_alloc, World.size_alloc] at this
 have hRC0 : (((w.alloc (.cells #[.pointer none] 116 (0, 0))).alloc (.cells #[cmpV, .slice none 0 0] 159 (0, 0))).alloc (.cells #[.pointer (some ⟨w.heap.size + 1, 0, none⟩)] 116 (0, 0))).heap[w.heap.size]? = some (.cells #[.pointer none] 116 (0, 0)) := za6 (za6 (zaj _ _) _) _
 have hB0 : Below w.heap.size w (((w.alloc (.cells #[.pointer none] 116 (0, 0))).alloc (.cells #[cmpV, .slice none 0 0] 159 (0, 0))).alloc (.cells #[.pointer (some ⟨w.heap.size + 1, 0, none⟩)] 116 (0, 0))) := za2 (za2 (za2 (Below.refl _ _) _) _) _
 have hFam0 : FamSt w.heap.size (((w.alloc (.cells #[.pointer none] 116 (0, 0))).alloc (.cells #[cmpV, .slice none 0 0] 159 (0, 0))).alloc (.cells #[.pointer (some ⟨w.heap.size + 1, 0, none⟩)] 116 (0, 0))) (w.heap.size + 1) (.slice none 0 0) [] [] (famOf (l0.take 0)) :=
  ⟨⟨hmp0, by omega, ⟨rfl, .inl ⟨rfl, rfl⟩⟩, rfl, by simp, fun v hv => (by cases hv), rfl⟩, fun d u h => (by cases h), List.Pairwise.nil, fun d _ => rfl⟩
 have HF0 := za0.mk hF0
 have HRC0 := za0.mk hRC0
 have HB0 := za0.mk hB0
 have HFam0 := za0.mk hFam0
 clear hmp0 hF0 hRC0 hB0 hFam0
 generalize ((w.alloc (.cells #[.pointer none] 116 (0, 0))).alloc (.cells #[cmpV, .slice none 0 0] 159 (0, 0))).alloc (.cells #[.pointer (some ⟨w.heap.size + 1, 0, none⟩)] 116 (0, 0)) = Wa at *
 obtain ⟨mp, Hmp⟩ : ∃ mp, za0 (w.heap.size + 1 = mp) := ⟨_, ⟨rfl⟩⟩
 obtain ⟨F, HFe⟩ : ∃ F, za0 (w.heap.size + 1 + 1 = F) := ⟨_, ⟨rfl⟩⟩
 obtain ⟨RC, HRCe⟩ : ∃ RC, za0 (w.heap.size = RC) := ⟨_, ⟨rfl⟩⟩
 rw [HFe.out] at HF0
 rw [Hmp.out] at HF0 HFam0
 rw [HRCe.out] at HRC0
 rw [HFe.out, Hmp.out]
 rw [show (Value.pointer (some { block := w.heap.size, off := 0 })) = .pointer (some ⟨RC, 0, none⟩) by rw [HRCe.out]]
 go_loopw [14] (fun i wr => ∃ m : Nat, m ≤ n ∧ i = .int .i64 m ∧ za0 (∃ v ks vs, FamSt w.heap.size wr mp v ks vs (famOf (l0.take m)) ∧ ks.length ≤ m ∧ ∀ d ∈ ks, famOf (l0.take m) d ≠ []) ∧ za0 (wr.heap[F]? = some (boxF mp)) ∧ za0 (wr.heap[RC]? = some (.cells #[.pointer none] 116 (0, 0))) ∧ za0 (Below w.heap.size w wr)) (fun i _ => n - (intOf i).toNat)
 case atStart => exact ⟨0, Nat.zero_le _, rfl, ⟨_, _, _, HFam0.out, Nat.le_refl _, fun d hd => (by cases hd)⟩, HF0, HRC0, HB0⟩
 case round =>
  obtain ⟨m, hm, rfl, HFAM, HF, HRC, HB⟩ := hrel
  clear HFam0 HF0 HRC0 HB0
  by_cases hlt : m < n
  ·
   have hltb : decide ((m : Int) < (n : Int)) = true := decide_eq_true (by omega)
   have hml : m < l0.length := by have := Hn.out; omega
   obtain ⟨x, Hx⟩ : ∃ x, za0 (l0[m]? = some x) := ⟨_, ⟨List.getElem?_eq_getElem hml⟩⟩
   obtain ⟨ad, e, g0, g1, g2, g3, g4, g5⟩ := node_at HR.out HB.out m x Hx.out
   subst e
   obtain ⟨v, ks, vs, hfam, hkl, hne⟩ := HFAM.out
   have HFM := za0.mk hfam
   have HKL0 := za0.mk hkl
   have HNE := za0.mk hne
   clear hfam hkl hne HFAM
   have hcF : (wr.alloc (boxN x)).cell? ⟨F, 0, none⟩ = _ := (za4 (za6 HF.out _) 0).trans rfl
   have HFM1 := za0.mk (HFM.out.below (Gr.alloc wr (boxN x)).below)
   have HBN1 := za0.mk (zaj wr (boxN x))
   have HB1 := za0.mk (za2 HB.out (boxN x))
   have HBF1 := za0.mk (za6 HF.out (boxN x))
   have HRC1 := za0.mk (za6 HRC.out (boxN x))
   have HNB : za0 (∀ d q, (getV ks vs d).ownBlock = some q → q ≠ wr.heap.size) := ⟨fun d q e => by have := (HFM.out.getR d).lt e; omega⟩
   have HNW : za0 (w.heap.size ≤ wr.heap.size) := ⟨HB.out.size⟩
   go_wp2_with fail
   clear hcF g0 g1 g2 g3 g4 g5
   obtain ⟨A, c, hv, hents⟩ := HFM1.out.map.ents
   have hget := get_call mp ks vs A ks.length c x.f1 _ HFM1.out.map.inc hents (by rw [← hv]; exact HFM1.out.map.map)
   refine hget.mono ?_
   clear hget hv hents
   rintro e W0 ⟨rfl, hb⟩
   have HFM := za0.mk (HFM1.out.below hb)
   have HBN := za0.mk (zab HBN1.out hb)
   have HBF := za0.mk (zab HBF1.out hb)
   have HRC := za0.mk (zab HRC1.out hb)
   have HB := za0.mk (za8 HB1.out hb)
   clear hb HFM1 HBN1 HBF1 HRC1 HB1 HF
   obtain ⟨Nb, HNe⟩ : ∃ Nb, za0 (wr.heap.size = Nb) := ⟨_, ⟨rfl⟩⟩
   obtain ⟨u, HUV⟩ : ∃ u, za0 (u = getV ks vs x.f1) := ⟨_, ⟨rfl⟩⟩
   obtain ⟨fam, HFa⟩ : ∃ fam, za0 (famOf (l0.take m) = fam) := ⟨_, ⟨rfl⟩⟩
   rw [HNe.out] at HBN HNB ⊢
   rw [HFa.out] at HFM
   rw [← HUV.out]
   have HR1 : za0 (RN W0 w.heap.size u (fam x.f1)) := ⟨by rw [HUV.out]; exact HFM.out.getR x.f1⟩
   have HUN : za0 (∀ q, u.ownBlock = some q → q ≠ Nb) := ⟨by rw [HUV.out]; exact HNB.out x.f1⟩
   have HBW : za0 (w.heap.size ≤ W0.heap.size) := ⟨HB.out.size⟩
   have HLF : za0 ((fam x.f1).length + 1 ≤ 1000000) := ⟨by
    have h1 : (famOf (l0.take m) x.f1).length ≤ (l0.take m).length := List.length_filter_le _ _
    rw [HFa.out, List.length_take] at h1
    have := HL.out
    omega⟩
   have HKL : za0 (ks.length < 1000000) := ⟨by have := HKL0.out; have := HL.out; omega⟩
   obtain ⟨Au, nu, cu, hu⟩ : ∃ A n c, u = .slice A n c := by
    obtain ⟨A, c, e⟩ := Kd.R_slice HR1.out
    exact ⟨_, _, _, e⟩
   rw [hu]
   go_wp2_with fail
   rw [← hu]
   clear hu
   refine AnyOrder.wp_region (by kernel_rfl) (madeInv w.heap.size W0 (some ad) n c0 RC F Nb mp v ks vs fam x u _ _ _ _ _ _ _ _ _ _ _ _ _ _ _ _ _ _ _ _ _ _ _ _ _ _ _ _ _ _ _ _ _ _ _ _ _) ⟨false, false, false, false, false, false, false, false, false, 0, undef, undef, rfl, rfl, ⟨⟨fun h => (by cases h), fun h => (by cases h), fun h => (by cases h), fun _ => ⟨zaa HBF.out, zaa HBN.out⟩, fun _ => za3 (Below.refl _ _), fun h => (by cases h), fun h => (by cases h), fun h => (by cases h)⟩⟩⟩ ?step ?last
   case step =>
    rintro L ac V i ⟨l0, l1, l2, l3, l4, l5, l6, l7, l8, g, u1, rr, rfl, rfl, HF⟩ hi K hK
    rcases AnyOrder.up hi [0, 2, 4, 1, 3, 5, 6, 7, 8] rfl with rfl | rfl | rfl | rfl | rfl | rfl | rfl | rfl | rfl
    all_goals
     replace hi := AnyOrder.first hi rfl
     repeat (obtain ⟨ha, hi⟩ := hi; first | obtain rfl := ha | clear ha)
     clear hi
     try simp only [sel_true, selv_true] at hK ⊢
    iterate 3
     ·
      refine AnyOrder.wpOp_go rfl (by rfl) ?_
      go_wp2_with fail
      exact ⟨_, _, _, _, _, _, _, _, _, g, u1, rr, rfl, rfl, HF⟩
    ·
     obtain rfl := HF.out.no8 (.inl rfl)
     (try simp only [sel_false, selv_false] at hK ⊢)
     have cf : V.cell? ⟨F, 0, none⟩ = _ := (za4 (HF.out.low rfl).1 0).trans rfl
     refine AnyOrder.wpOp_go rfl (by rfl) ?_
     go_wp2_with fail
     exact ⟨_, _, _, _, _, _, _, _, _, g, u1, rr, rfl, rfl, ⟨⟨HF.out.ord6, HF.out.ord7, fun h => (by cases h), HF.out.low, HF.out.pre, HF.out.ent, HF.out.mid, fun h => (by cases h)⟩⟩⟩
    ·
     obtain rfl := HF.out.no8 (.inr rfl)
     (try simp only [sel_false, selv_false] at hK ⊢)
     have cn2 : V.cell? ⟨Nb, 2, none⟩ = _ := (za4 (HF.out.low rfl).2 2).trans rfl
     have cn3 : V.cell? ⟨Nb, 3, none⟩ = _ := (za4 (HF.out.low rfl).2 3).trans rfl
     refine AnyOrder.wpOp_go rfl (by rfl) ?_
     go_wp2_with fail
     exact ⟨_, _, _, _, _, _, _, _, _, g, u1, rr, rfl, rfl, ⟨⟨HF.out.ord6, HF.out.ord7, fun h => (by cases h), HF.out.low, HF.out.pre, HF.out.ent, HF.out.mid, fun h => (by cases h)⟩⟩⟩
    ·
     obtain ⟨rfl, rfl⟩ := HF.out.no7 (.inl rfl)
     (try simp only [sel_false, selv_false] at hK ⊢)
     have cn0 : V.cell? ⟨Nb, 0, none⟩ = _ := (za4 (HF.out.low rfl).2 0).trans rfl
     have cn1 : V.cell? ⟨Nb, 1, none⟩ = _ := (za4 (HF.out.low rfl).2 1).trans rfl
     have cn2 : V.cell? ⟨Nb, 2, none⟩ = _ := (za4 (HF.out.low rfl).2 2).trans rfl
     have cn3 : V.cell? ⟨Nb, 3, none⟩ = _ := (za4 (HF.out.low rfl).2 3).trans rfl
     have cn4 : V.cell? ⟨Nb, 4, none⟩ = _ := (za4 (HF.out.low rfl).2 4).trans rfl
     have cn5 : V.cell? ⟨Nb, 5, none⟩ = _ := (za4 (HF.out.low rfl).2 5).trans rfl
     refine AnyOrder.wpOp_go rfl (by rfl) ?_
     go_wp2_with fail
     exact ⟨_, _, _, _, _, _, _, _, _, g, u1, rr, rfl, rfl, ⟨⟨fun _ => rfl, fun h => (by cases h), fun h => (by cases h), HF.out.low, HF.out.pre, HF.out.ent, fun h => (by cases h), fun h => (by cases h)⟩⟩⟩
    ·
     obtain ⟨rfl, rfl⟩ := HF.out.no7 (.inr (.inl rfl))
     (try simp only [sel_false, selv_false] at hK ⊢)
     refine AnyOrder.wpOp_go rfl (by rfl) ?_
     go_wp2_with fail
     exact ⟨_, _, _, _, _, _, _, _, _, V.heap.size, u1, rr, rfl, rfl, ⟨⟨fun _ => rfl, fun h => (by cases h), fun h => (by cases h), fun _ => ⟨za6 (HF.out.low rfl).1 _, za6 (HF.out.low rfl).2 _⟩, fun _ => za8 (HF.out.pre rfl) ((Below.refl _ V).alloc (Nat.le_refl _) _), fun _ _ => ⟨(HF.out.pre rfl).size, zaj _ _⟩, fun h => (by cases h), fun h => (by cases h)⟩⟩⟩
    ·
     obtain ⟨-, rfl⟩ := HF.out.no7 (.inr (.inr rfl))
     (try simp only [sel_false, selv_false] at hK ⊢)
     obtain rfl := HF.out.ord6 rfl
     refine AnyOrder.wpOp_go rfl (by rfl) ?_
     refine op_append_node w.heap.size rfl (.tmp 30) (.tmp 32) rfl u (fam x.f1) [x] (some ⟨g, 0, none⟩) 1 1 rfl rfl ((HR1.out).keep fun q hq => (HF.out.pre rfl).block q (HR1.out.lt hq)) (boxN_C (HF.out.ent rfl rfl).2) (Nat.le_trans HBW.out (HF.out.pre rfl).size) HLF.out ?_
     intro v1 w1 hr1 hg1 hb1
     exact hK _ _ ⟨_, _, _, _, _, _, _, _, _, g, v1, rr, rfl, rfl, ⟨mk_app HUV.out HR1.out HUN.out HF.out hr1 hg1 hb1⟩⟩
    ·
     obtain ⟨rfl, rfl⟩ := HF.out.ord7 rfl
     obtain ⟨hr1, ht1, hb1⟩ := HF.out.mid rfl rfl
     obtain ⟨Au, nu, cu, rfl⟩ : ∃ A n c, u1 = .slice A n c := by obtain ⟨A, c, e⟩ := ownsRow_slice (cells_of_R hr1); exact ⟨_, _, _, e⟩
     refine AnyOrder.wpOp_go rfl (by rfl) ?_
     go_wp2_with fail
     refine (set_call w.heap.size mp v ks vs x.f1 Au nu cu V (HFM.out.mapT ht1) HKL.out (Nat.le_trans HBW.out ht1.size)).mono ?_
     rintro e V' ⟨r, v', rfl, hm, ht2⟩
     have HX := mk_set rfl HFM.out hr1 ht1 hb1 hm ht2
     exact hK _ _ ⟨_, _, _, _, _, _, _, _, _, g, (.slice Au nu cu), r, rfl, rfl, ⟨⟨fun _ => rfl, fun _ => ⟨rfl, rfl⟩, fun _ => ⟨rfl, rfl, rfl⟩, fun h => (by cases h), fun h => (by cases h), fun _ h => (by cases h), fun _ h => (by cases h), fun _ => ⟨v', HX⟩⟩⟩⟩
   case last =>
    rintro L ac V ⟨l0, l1, l2, l3, l4, l5, l6, l7, l8, g, u1, rr, rfl, rfl, HF⟩ hr
    obtain ⟨rfl, rfl, rfl, rfl, rfl, rfl, rfl, rfl, rfl, -⟩ := AnyOrder.alls rfl (by kernel_rfl) hr
    clear hr
    simp only [sel_true, selv_true]
    obtain ⟨v', hfin, htc⟩ := HF.out.fin rfl
    have HX : za0 (FamSt w.heap.size V mp v' (setKs ks x.f1) (setVs ks vs x.f1 u1) (famOf (l0.take (m + 1))) ∧ V.heap[F]? = some (boxF mp) ∧ V.heap[RC]? = some (.cells #[.pointer none] 116 (0, 0)) ∧ Below w.heap.size w V) := ⟨by
     refine ⟨by rw [famOf_succ Hx.out, HFa.out]; exact hfin, ?_, ?_, htc.on HB.out (fun i hi => HFM.out.base_le hi)⟩
     ·
      exact (htc.block F (zae HBF.out) (HFM.out.far HBF.out (by decide) x.f1)).trans HBF.out
     ·
      exact (htc.block RC (zae HRC.out) (HFM.out.far HRC.out (by decide) x.f1)).trans HRC.out⟩
    clear hfin htc HF
    have hn6 : n ≤ 1000000 := by rw [← Hn.out]; exact HL.out
    go_wp2
    refine ⟨⟨m + 1, by omega, by go_num, ⟨v', _, _, HX.out.1, Nat.le_trans (setKs_le ks x.f1) (by have := HKL0.out; omega), famOf_ne Hx.out HNE.out⟩, ⟨HX.out.2.1⟩, ⟨HX.out.2.2.1⟩, ⟨HX.out.2.2.2⟩⟩, ?_⟩
    simp [intOf]; omega
  ·
   obtain rfl : m = n := by omega
   have hltb : decide ((m : Int) < (m : Int)) = false := decide_eq_false (by omega)
   obtain ⟨v, ks, vs, hfam, _, hne⟩ := HFAM.out
   rw [List.take_of_length_le (by rw [Hn.out]; exact Nat.le_refl _)] at hfam hne
   have HFM := za0.mk hfam
   have HNE := za0.mk hne
   have hcF : wr.cell? ⟨F, 0, none⟩ = _ := (za4 HF.out 0).trans rfl
   clear hfam hne HFAM
   go_wp2_with fail
   refine (all_call w.heap.size mp v ks vs wr HFM.out.map).mono ?_
   rintro e W1 ⟨bc, v', rfl, hov, hb1⟩
   have HFM1 := za0.mk (HFM.out.below hb1)
   have HF1 := za0.mk (zab HF.out hb1)
   have HRC1 := za0.mk (zab HRC.out hb1)
   have HB1 := za0.mk (za8 HB.out hb1)
   have HOV := za0.mk hov
   have HSZ := za0.mk hb1.size
   clear hov hb1 hcF HF HRC
   have HKZ : za0 (∀ k d u, (ks.zip vs)[k]? = some (d, u) → ks[k]? = some d ∧ vs[k]? = some u ∧ ∃ g n cap, u = Value.slice (some ⟨g, 0, none⟩) n cap) := ⟨fun k d u hz => by
    obtain ⟨h1, h2⟩ := (List.getElem?_zip_eq_some).1 hz
    refine ⟨h1, h2, ?_⟩
    have hr := HFM.out.rows d u (List.mem_of_getElem? hz)
    have hn0 : famOf l0 d ≠ [] := HNE.out d (List.mem_of_getElem? h1)
    obtain ⟨g, cap, e, _⟩ := Kd.R_form hr (List.length_pos_iff.2 hn0)
    exact ⟨g, _, cap, e⟩⟩
   have HSL : za0 (∀ u ∈ vs, ∃ A n c, u = Value.slice A n c) := ⟨fun u hu => by
    obtain ⟨k, hk⟩ := List.getElem?_of_mem hu
    obtain ⟨d, u', hz, _, hv⟩ := zip_get (ks := ks) (vs := vs) HFM.out.map.len (by have := (List.getElem?_eq_some_iff.1 hk).1; rw [← HFM.out.map.len]; exact this)
    rw [hk] at hv
    cases hv
    obtain ⟨_, _, g, n, cap, e⟩ := HKZ.out k d u hz
    exact ⟨_, _, _, e⟩⟩
   have HEV : za0 (∀ i, (∃ u ∈ vs, u.ownBlock = some i) → i < wr.heap.size ∧ ∃ cur, W1.heap[i]? = some (.cells cur 42 (0, 0))) := ⟨fun i ⟨u, hu, hi⟩ => by
    obtain ⟨k, hk⟩ := List.getElem?_of_mem hu
    obtain ⟨d, u', hz, _, hv⟩ := zip_get (ks := ks) (vs := vs) HFM.out.map.len (by have := (List.getElem?_eq_some_iff.1 hk).1; rw [← HFM.out.map.len]; exact this)
    rw [hk] at hv
    cases hv
    exact ⟨(HFM.out.rows d u (List.mem_of_getElem? hz)).lt hi, ((HFM1.out.rows d u (List.mem_of_getElem? hz)).block hi).2⟩⟩
   go_wp2_with fail
   have HFM0 : za0 (FamSt w.heap.size W1 mp v ks vs (famK l0 ks 0)) := ⟨by rw [show famK l0 ks 0 = famOf l0 from by funext d; unfold famK; rw [List.take_zero, if_neg (by simp)]]; exact HFM1.out⟩
   refine wpIn_wide.1 (ListRange.wpIn_range (n := 9) (F := Fence.wide) rfl (by decide) (gf := 113) (lb := #[.pointer (some ⟨bc, 0, none⟩)]) rfl trivial Tryz.call113
    (encs := fun p : Dot × Value => #[vDot p.1, p.2]) (Kp := KpE W1.heap.size (fun i => ∃ u ∈ vs, u.ownBlock = some i)) (L := ks.zip vs) (w0 := W1)
    (fun lp J Jx W hWW hJ _ hY h0 => over_in 8 lp bc W1.heap.size wr.heap.size (fun i => ∃ u ∈ vs, u.ownBlock = some i) v' ks vs (by decide) J Jx W
     (fun k A o hA hj => hJ k A (A.alloc o) none hj ⟨rfl, rfl, rfl, by simp, fun k hk _ => Below.heap_alloc A o k hk⟩ (fun r e => (by cases e)))
     hY (HOV.out.keep (hWW.block bc (zae HOV.out.box)) (fun g hg => hWW.block g (by
      rcases HOV.out.row.2 with ⟨rfl, _⟩ | ⟨g', c, cur, rfl, _, hcur, _⟩
      ·
       cases hg
      ·
       cases hg; exact zae hcur))) hWW.size
     ⟨zae HOV.out.box, fun h => by have h1 : bc < wr.heap.size := (HEV.out bc h).1; have h2 : wr.heap.size ≤ bc := HOV.out.own; omega⟩
     (fun g hg => by
      rcases HOV.out.row.2 with ⟨rfl, _⟩ | ⟨g', c, cur, rfl, hbg, hcur, _⟩
      ·
       cases hg
      ·
       cases hg; exact ⟨zae hcur, fun h => by have h1 : g' < wr.heap.size := (HEV.out g' h).1; have h2 : wr.heap.size ≤ g' := hbg; omega⟩) h0 HSL.out)
    (fun h k => h.trans k) (fun W l o o' hl _ _ _ => KpE.put (Nat.le_refl _) W l o o' hl) (Below.refl _ _) (fun _ => rfl)
    (fun k W => FamSt w.heap.size W mp v ks vs (famK l0 ks k) ∧ W.heap[F]? = some (boxF mp) ∧ W.heap[RC]? = some (.cells #[.pointer none] 116 (0, 0)) ∧ Below w.heap.size w W ∧ KpE W1.heap.size (fun i => ∃ u ∈ vs, u.ownBlock = some i) W1 W)
    (fun _ _ _ => False)
    ?own (fun _ _ _ _ _ hs _ _ => hs) ⟨HFM0.out, HF1.out, HRC1.out, HB1.out, KpE.refl _ _ _⟩
    (fun x a' _ => a' = { tmps := #[.slice A0 m c0, undef, .pointer (some ⟨RC, 0, none⟩), .pointer (some ⟨F, 0, none⟩), undef, u5, u6, u7, undef, x.2, .pointer (some ⟨mp, 0, none⟩), .agg #[.pointer (some ⟨mp, 0, none⟩)], .slice A0 m c0, .int .i64 m, .int .i64 m, .bool false, u16, u17, u18, u19, u20, u21, u22, u23, u24, u25, u26, u27, u28, u29, u30, u31, u32, u33, u34, u35, .pointer (some ⟨F, 0, none⟩), .pointer (some ⟨mp, 0, none⟩), .func (.func 113) #[] #[.pointer (some ⟨bc, 0, none⟩)], vDot x.1, x.2, undef, undef, undef], defers := [] })
    (fun x a' _ W W' row hs hg hr => hs)
    ?assign ?body ?done ?stop)
   case own =>
    rintro k W W' row ⟨h1, h2, h3, h4, h5⟩ hg hr
    have hnc : ∀ q cells t, W.heap[q]? = some (Obj.cells cells t (0, 0)) → W'.heap[q]? = W.heap[q]? := fun q cells t hq => hg.block q (zae hq) (fun e => by obtain ⟨_, o, ho, hc⟩ := hr q e.symm; rw [hq] at ho; cases ho; cases hc)
    refine ⟨⟨h1.map.keep (hnc mp _ _ h1.map.map) (fun g hgg => ?_), fun d u hm => (h1.rows d u hm).keep (fun g hgg => ?_), h1.sep, h1.none⟩, (hnc F _ _ h2).trans h2, (hnc RC _ _ h3).trans h3, h4.grown hg h4.size (fun k e => Nat.le_trans HB1.out.size (hr k e).1), h5.trans (KpE.grown2 hg (fun r e hlt => by have := (hr r e).1; omega) h5.1)⟩
    ·
     rcases h1.map.row.2 with ⟨rfl, _⟩ | ⟨g', c, cur, rfl, _, hcur, _⟩
     ·
      cases hgg
     ·
      cases hgg; exact hnc _ _ _ hcur
    ·
     obtain ⟨_, cur, hcur⟩ := (h1.rows d u hm).block hgg
     exact hnc _ _ _ hcur
   case assign =>
    rintro l k x W K hx hI hK
    gi_wp2
    exact hK _ _ ⟨Nat.le_refl _, fun _ _ _ h _ => h⟩ (KpE.refl _ _ _) hI rfl
   case body =>
    rintro l k ⟨d, u⟩ a' W hx hl2 ⟨rr, hrr⟩ ⟨h1, h2, h3, h4, h5⟩ rfl
    obtain ⟨hkd, hvu, g, nu, cu, rfl⟩ := HKZ.out k d u hx
    have HX := za0.mk hx
    have H1 := za0.mk h1
    have H2 := za0.mk h2
    have H3 := za0.mk h3
    have H4 := za0.mk h4
    have H5 := za0.mk h5
    have HKD := za0.mk hkd
    have HVU := za0.mk hvu
    have hat : famK l0 ks k d = famOf l0 d := famK_at (incB_nodup HFM.out.map.inc) hkd
    have hrow : RN W w.heap.size (.slice (some ⟨g, 0, none⟩) nu cu) (famOf l0 d) := by rw [← hat]; exact h1.rows d _ (List.mem_of_getElem? hx)
    have HROW := za0.mk hrow
    have HLL : za0 ((famOf l0 d).length ≤ 1000000) := ⟨Nat.le_trans (List.length_filter_le _ _) HL.out⟩
    clear hx h1 h2 h3 h4 h5 hkd hvu hat hrow
    gi_wp2
    refine ⟨trivial, CallsIn.inRound l (CallsIn.mono (callsIn_wide.2 (sort_call w.heap.size g nu cu (famOf l0 d) W HROW.out HLL.out (fun x hx y hy e => HUQ.out x (List.mem_filter.1 hx).1 y (List.mem_filter.1 hy).1 e))) ?_)⟩
    rintro e W' ⟨rfl, hr, ht⟩
    have HR2 := za0.mk hr
    have HT := za0.mk ht
    clear hr ht
    gi_wp2
    have hcells : ∃ cur, W.heap[g]? = some (.cells cur 42 (0, 0)) := (HROW.out.block rfl).2
    have hgw : w.heap.size ≤ g := (HROW.out.block rfl).1
    have hfar : ∀ q cells t, W.heap[q]? = some (Obj.cells cells t (0, 0)) → t ≠ 42 → W'.heap[q]? = some (Obj.cells cells t (0, 0)) := fun q cells t hq hne => (HT.out.block q (zae hq) (fun e => by
     obtain ⟨cur, hc⟩ := hcells
     cases e
     rw [hc] at hq
     exact hne (Obj.cells.inj (Option.some.inj hq)).2.1.symm)).trans hq
    refine ⟨⟨HT.out.size, fun q o hB hq hoc => (HT.out.block q (zae hq) (fun e => ?_)).trans hq⟩, ⟨HT.out.size, fun i hi hne => HT.out.block i (Nat.lt_of_lt_of_le hi H5.out.1) (fun e => hne ⟨_, List.mem_of_getElem? HVU.out, e⟩)⟩, ?_, hfar F _ 116 H2.out (by decide), hfar RC _ 116 H3.out (by decide), HT.out.on H4.out (fun i e => by cases e; exact hgw), H5.out.trans ⟨HT.out.size, fun i hi hne => HT.out.block i (Nat.lt_of_lt_of_le hi H5.out.1) (fun e => hne ⟨_, List.mem_of_getElem? HVU.out, e⟩)⟩⟩
    ·
     obtain ⟨cur, hc⟩ := hcells
     cases e
     rw [hc] at hq
     cases hq
     cases hoc
    ·
     rw [famK_succ HKD.out]
     exact H1.out.turn HKD.out HVU.out HR2.out HT.out
   case done =>
    rintro D W hD ⟨h1, h2, h3, h4, h5⟩ hDK
    have hcF : W.cell? ⟨F, 0, none⟩ = _ := (za4 h2 0).trans rfl
    have hcR : W.cell? ⟨RC, 0, none⟩ = _ := (za4 h3 0).trans rfl
    have hfR := za9 h3 0
    have HEND : za0 (W.heap[RC]? = some (.cells #[.pointer none] 116 (0, 0)) ∧ FamSt w.heap.size W mp v ks vs (kids l0) ∧ Below w.heap.size w W) := ⟨by
     refine ⟨h3, ?_, h4⟩
     have hk : famK l0 ks (ks.zip vs).length = kids l0 := by
      funext d
      unfold famK
      rw [List.length_zip, HFM.out.map.len, Nat.min_self, List.take_length]
      by_cases hd : d ∈ ks
      ·
       rw [if_pos hd]; rfl
      ·
       rw [if_neg hd, HFM.out.none d hd]
       show [] = sortN (famOf l0 d)
       rw [HFM.out.none d hd]; rfl
     rw [hk] at h1
     exact h1⟩
    clear h1 h2 h3 h4 h5
    have HRCW : za0 (w.heap.size ≤ RC ∧ W1.heap.size ≤ D ∧ W.heap[D]? = some (.deferred (some []))) := ⟨by rw [HRCe.out]; exact ⟨Nat.le_refl _, hD, hDK⟩⟩
    clear hDK hD
    go_wp2
    obtain ⟨hrcw, hD, hDK⟩ := HRCW.out
    have hDne : D ≠ RC := fun e => by
     have := HEND.out.1
     rw [← e, hDK] at this
     cases this
    have hset : ∀ q, q ≠ RC → (W.setCell ⟨RC, 0, none⟩ (.pointer (some ⟨mp, 0, none⟩))).heap[q]? = W.heap[q]? := fun q hq => Below.heap_setCell W _ _ q hq
    have hRC2 : (W.setCell ⟨RC, 0, none⟩ (.pointer (some ⟨mp, 0, none⟩))).heap[RC]? = some (.cells #[.pointer (some ⟨mp, 0, none⟩)] 116 (0, 0)) := blk_set HEND.out.1 0 _
    have hfam2 : FamSt w.heap.size (W.setCell ⟨RC, 0, none⟩ (.pointer (some ⟨mp, 0, none⟩))) mp v ks vs (kids l0) := HEND.out.2.1.cells fun q cells t ht hq => hset q (fun e => by
     subst e
     rw [HEND.out.1] at hq
     exact ht (Obj.cells.inj (Option.some.inj hq)).2.1.symm)
    have hbel2 := below_setCell HEND.out.2.2 hrcw 0 (.pointer (some ⟨mp, 0, none⟩))
    refine leaves_of_marks2 (n0 := w.heap.size) [mkMark D] _ ⟨[D], rfl, by simp, fun E hE => ?_⟩ (fun W' hm => ⟨_, results_cell_row rfl _ W' RC 116 #[.pointer (some ⟨mp, 0, none⟩)] (0, 0) _ rfl ((hm.block RC (.inr fun d e => ?_)).trans hRC2) Tryz.underlying116 rfl (by kernel_rfl), mp, rfl, ⟨v, ks, vs, hfam2.cells fun q cells t _ hq => hm.block q (.inr fun d e => ?_)⟩, below_onlyMarks hbel2 hm⟩)
    ·
     simp only [List.mem_singleton] at hE
     subst hE
     exact ⟨Nat.le_trans HB1.out.size hD, (hset E hDne).trans hDK⟩
    ·
     rw [hRC2] at e; cases e
    ·
     rw [hq] at e; cases e
   case stop =>
    rintro D c k W _ _ h _
    exact h.elim
end
section
def walk_Order.f (l0 : List Node) : Option (List Node × Int) := if l0.length ≤ 1000000 then some (if storeOk l0 = true then ((ordOf l0).map (·.2), 0) else ([], 2)) else none
/-- The families of l, in memory from base on. -/
def Fams (base : Nat) (W : World) (mp : Nat) (l : List Node) : Prop := ∃ v ks vs, FamSt base W mp v ks vs (kids l)
theorem Fams.below {base : Nat} {W V : World} {mp : Nat} {l : List Node} (h : Fams base W mp l) (hb : Below W.heap.size W V) : Fams base V mp l := by
 obtain ⟨v, ks, vs, h⟩ := h
 exact ⟨v, ks, vs, h.below hb⟩
abbrev vFam (mp : Nat) : Value := .agg #[.pointer (some ⟨mp, 0, none⟩)]
set_option maxHeartbeats 1000000 in
set_option maxRecDepth 100000 in
theorem of_call (base mp : Nat) (l : List Node) (d : Dot) (w : World) (h : Fams base w mp l) :
  Calls Tryz.prog 96 #[vFam mp, vDot d] w fun e w' => ∃ u, e = .returned u ∧ RN w' base u (kids l d) ∧ Below w.heap.size w w' := by
 obtain ⟨v, ks, vs, h⟩ := h
 have hgr := ((Gr.alloc w (boxF mp)).trans (Gr.alloc _ (.cells #[.int .i64 d.f0, .int .i64 d.f1] 39 (0, 0)))).below
 have HM := za0.mk (h.below hgr)
 have hF : ((w.alloc (boxF mp)).alloc (.cells #[.int .i64 d.f0, .int .i64 d.f1] 39 (0, 0))).heap[w.heap.size]? = some (boxF mp) := za6 (zaj _ _) _
 have hD : ((w.alloc (boxF mp)).alloc (.cells #[.int .i64 d.f0, .int .i64 d.f1] 39 (0, 0))).heap[w.heap.size + 1]? = some (.cells #[.int .i64 d.f0, .int .i64 d.f1] 39 (0, 0)) := by have := zaj (w.alloc (boxF mp)) (.cells #[.int .i64 d.f0, .int .i64 d.f1] 39 (0, 0)); rwa [World.size_alloc] at this
 have c0 : ((w.alloc (boxF mp)).alloc (.cells #[.int .i64 d.f0, .int .i64 d.f1] 39 (0, 0))).cell? ⟨w.heap.size, 0, none⟩ = _ := (za4 hF 0).trans rfl
 have c1 : ((w.alloc (boxF mp)).alloc (.cells #[.int .i64 d.f0, .int .i64 d.f1] 39 (0, 0))).cell? ⟨w.heap.size + 1, 0, none⟩ = _ := (za4 hD 0).trans rfl
 have c2 : ((w.alloc (boxF mp)).alloc (.cells #[.int .i64 d.f0, .int .i64 d.f1] 39 (0, 0))).cell? ⟨w.heap.size + 1, 1, none⟩ = _ := (za4 hD 1).trans rfl
 have HB := za0.mk hgr
 clear h hgr hF hD
 go_enter Tryz.func96, Tryz.ntmps96
 go_wp2_with fail
 obtain ⟨A, c, hv, hents⟩ := HM.out.map.ents
 have hget := get_call mp ks vs A ks.length c d _ HM.out.map.inc hents (by rw [← hv]; exact HM.out.map.map)
 refine hget.mono ?_
 clear hget hv hents c0 c1 c2
 rintro e w1 ⟨rfl, hb⟩
 have HR := za0.mk ((HM.out.below hb).getR d)
 have HB := za0.mk (za8 HB.out hb)
 clear hb HM
 obtain ⟨u, hu⟩ : ∃ u, getV ks vs d = u := ⟨_, rfl⟩
 rw [hu] at HR ⊢
 clear hu
 obtain ⟨Au, cu, rfl⟩ := Kd.R_slice HR.out
 go_wp2
 go_ret
 exact ⟨_, rfl, HR.out, HB.out⟩
theorem Store.uniq {l : List Node} (hs : Store l) : ∀ x ∈ l, ∀ y ∈ l, x.f0 = y.f0 → x = y := fun x hx y hy e => inc_eq hs.inc hx hy e
theorem made_call (A0 : Option Addr) (c0 : Nat) (l0 : List Node) (w : World) (hr0 : Kd.C k42 w A0 l0.length l0) (hc0 : l0.length ≤ c0) (hl : l0.length ≤ 1000000) (hs : Store l0) :
  Calls Tryz.prog 69 #[.slice A0 l0.length c0] w fun e w' => ∃ mp, e = .returned (vFam mp) ∧ Fams w.heap.size w' mp l0 ∧ Below w.heap.size w w' :=
 made_walk A0 c0 l0 w hr0 hc0 hl hs.uniq
theorem Fams.lower {b b' : Nat} {W : World} {mp : Nat} {l : List Node} (h : Fams b W mp l) (hb : b' ≤ b) : Fams b' W mp l := by
 obtain ⟨v, ks, vs, h⟩ := h
 refine ⟨v, ks, vs, ⟨h.map.map, Nat.le_trans hb h.map.own, ⟨h.map.row.1, h.map.row.2.imp id ?_⟩, h.map.len, h.map.small, h.map.one, h.map.inc⟩, fun d u hm => Kd.R_lower (h.rows d u hm) hb, h.sep, h.none⟩
 rintro ⟨g, c, cur, e, hg, hr⟩
 exact ⟨g, c, cur, e, Nat.le_trans hb hg, hr⟩
theorem RN.below' {W V : World} {base : Nat} {u : Value} {xs : List Node} (h : RN W base u xs) (hb : Below W.heap.size W V) : RN V base u xs := Kd.R_below h hb
end
end Go.Proofs.YtefejajofmpjdaaGreat.PWalk
end
section
namespace Go.ListRange
open Go.RowKit
section
variable {F : Fence} {n : Nat} {P : Program} {α : Type}
/-- Nothing below b, and of the others no cells but those of own types, may change; the world may grow. -/
structure Mv (own : Nat → Prop) (b : Nat) (A B : World) : Prop where
 os : B.os = A.os
 tape : B.tape = A.tape
 output : B.output = A.output
 size : A.heap.size ≤ B.heap.size
 block : ∀ i, i < A.heap.size → (i < b ∨ ∀ c t, A.heap[i]? = some (.cells c t (0, 0)) → ¬ own t) → B.heap[i]? = A.heap[i]?
theorem Mv.trans {own : Nat → Prop} {b : Nat} {A B C : World} (h : Mv own b A B) (k : Mv own b B C) : Mv own b A C :=
 ⟨k.os.trans h.os, k.tape.trans h.tape, k.output.trans h.output, Nat.le_trans h.size k.size, fun i hi hc => by
  have e := h.block i hi hc
  exact (k.block i (Nat.lt_of_lt_of_le hi h.size) (hc.imp_right fun hc c t hb => hc c t (e ▸ hb))).trans e⟩
theorem Mv.mono {own : Nat → Prop} {b b' : Nat} {A B : World} (h : Mv own b A B) (hb : b' ≤ b) : Mv own b' A B :=
 ⟨h.os, h.tape, h.output, h.size, fun i hi hc => h.block i hi (hc.imp_left fun h => Nat.lt_of_lt_of_le h hb)⟩
theorem Mv.below {own : Nat → Prop} {b : Nat} {A B : World} (h : Below A.heap.size A B) : Mv own b A B := ⟨h.os, h.tape, h.output, h.size, fun i hi _ => h.block i hi⟩
theorem Mv.far {own : Nat → Prop} {b : Nat} {A B : World} (h : Mv own b A B) {i : Nat} {c : Array Value} {t : Nat} (hi : A.heap[i]? = some (.cells c t (0, 0))) (ht : ¬ own t) : B.heap[i]? = some (.cells c t (0, 0)) :=
 (h.block i (Array.getElem?_eq_some_iff.1 hi).1 (.inr fun c' t' hc => by rw [hi] at hc; cases hc; exact ht)).trans hi
theorem Mv.on {own : Nat → Prop} {b : Nat} {w A B : World} (h : Mv own b A B) (hw : Below w.heap.size w A) (hb : w.heap.size ≤ b) : Below w.heap.size w B :=
 ⟨h.os.trans hw.os, h.tape.trans hw.tape, h.output.trans hw.output, Nat.le_trans hw.size h.size, fun k hk => (h.block k (Nat.lt_of_lt_of_le hk hw.size) (.inl (Nat.lt_of_lt_of_le hk hb))).trans (hw.block k hk)⟩
theorem Book.moved {d : Nat} {r : Loop} {W V : World} {own : Nat → Prop} {b : Nat} (h : Book d r W) (hm : Mv own b W V) : Book d r V :=
 ⟨(hm.block _ h.lt (.inr fun c t hc => by rw [h.loop] at hc; cases hc)).trans h.loop, (hm.block _ (Nat.lt_trans (Nat.lt_succ_self _) h.lt) (.inr fun c t hc => by rw [h.mark] at hc; cases hc)).trans h.mark⟩
/-- The iterator g calls yield with the elements of L, one after the other, until one round says false; between the rounds it may change cells of its own. -/
def Moves (F : Fence) (n : Nat) (P : Program) (g : Nat) (lb : Array Value) (encs : α → Array Value) (Kp : World → World → Prop) (own : Nat → Prop) (L : List α) (w : World) : Prop :=
 ∀ (l : Nat) (J Jx : Nat → World → Prop) (W : World), Below w.heap.size w W → (∀ k A B, Mv own W.heap.size A B → J k A → J k B) → (∀ k A B, Mv own W.heap.size A B → Jx k A → Jx k B) →
  (∀ k x V, L[k]? = some x → J k V → YieldAt F (n - 1) P l (encs x) V fun e V' =>
   (e = .returned (.bool true) ∧ J (k + 1) V' ∧ Kp V V') ∨ (e = .returned (.bool false) ∧ Jx (k + 1) V')) →
  J 0 W → CallsIn F n P g (#[.func (.yield l) #[] #[]] ++ lb) W fun e V => (∃ v, e = .returned v) ∧ (J L.length V ∨ ∃ k, k ≤ L.length ∧ Jx k V)
theorem wpIn_move {g : Operand} {ps : Array Tmp} {assign body : Code} {Q : Exit → Act → World → Prop} {a : Act} {w : World}
  (hro : F.round = none) (h1 : 1 ≤ n) {gf : Nat} {lb : Array Value} (hg : a.eval g = .func (.func gf) #[] lb) (hFg : F.fn gf) (eg : ∀ args w, (callFunc gf args).run P w = .ok (.enter gf args) w)
  {encs : α → Array Value} {Kp : World → World → Prop} {L : List α} {w0 : World} (own : Nat → Prop) (hseq : Moves F (n - 1) P gf lb encs Kp own L w0)
  (hKt : ∀ {A B C : World}, Kp A B → Kp B C → Kp A C) (hKb : ∀ (W : World) (l : Nat) (o o' : Obj), w.heap.size ≤ l → W.heap[l]? = some o → o.isCells = false → o.isWalk = false → Kp W (W.putObj l o')) (hb0 : Below w0.heap.size w0 w) (hps : ∀ x, (encs x).size = ps.size)
  (I : Nat → World → Prop) (Ix : Code → Nat → World → Prop) (hI : OwnFrom w.heap.size I) (hIx : ∀ c, OwnFrom w.heap.size (Ix c)) (hIm : ∀ k A B, Mv own w.heap.size A B → I k A → I k B) (hIxm : ∀ c k A B, Mv own w.heap.size A B → Ix c k A → Ix c k B) (h0 : I 0 w) (Ax : α → Act → World → Prop) (hAx : ∀ x a', OwnFrom w.heap.size (fun (_ : Unit) W => Ax x a' W))
  (hassign : ∀ (l k : Nat) (x : α) (W : World) (K : Act → World → Prop), L[k]? = some x → I k W → (∀ a' V, KeepsFrom w.heap.size W V → Kp W V → I k V → Ax x a' V → K a' V) →
   assign.wpIn (F.inRound l) (n - 1 - 1) P (Exit.then K (fun _ _ _ => False)) { tmps := (ps.zip (encs x)).foldl (fun t (p, v) => t.setIfInBounds p v) a.tmps, defers := [] } W)
  (hbody : ∀ (l k : Nat) (x : α) (a' : Act) (W : World), L[k]? = some x → w.heap.size ≤ l → (∃ r, W.heap[l]? = some (.loop r)) → I k W → Ax x a' W → body.wpIn (F.inRound l) (n - 1 - 1) P (Post w.heap.size Kp I Ix k W) a' W)
  (hdone : ∀ (D : Nat) (W : World), w.heap.size ≤ D → I L.length W → W.heap[D]? = some (.deferred (some [])) → Q .normal { a with defers := { target := .collected D, args := #[] } :: a.defers } W)
  (hstop : ∀ (D : Nat) (c : Code) (k : Nat) (W : World), w.heap.size ≤ D → k ≤ L.length → Ix c k W → W.heap[D]? = some (.deferred (some [])) → c.wpIn F n P Q { a with defers := { target := .collected D, args := #[] } :: a.defers } W) :
  (Code.rangeFunc g ps assign body).wpIn F n P Q a w := by
 refine wpIn_rangeFunc ?_
 intro fn hfn
 rw [hro]
 obtain ⟨d, hd⟩ : ∃ d, d = w.heap.size := ⟨_, rfl⟩
 obtain ⟨R, hR⟩ : ∃ R : LoopState → Option Code → Loop, R = fun s j => { state := s, pending := j, fn, tmps := a.tmps, params := ps, assign, body, defers := d } := ⟨_, rfl⟩
 have hstart := run_enterLoop_outer (P := P) (w := w) fn a.tmps ps assign body
 have hB : Book d (R .ready none) ((w.alloc (.deferred (some []))).alloc (.loop (R .ready none))) := by
  rw [hd]
  constructor
  ·
   have := World.alloc_heap_new (w.alloc (.deferred (some []))) (.loop (R .ready none)); rwa [World.size_alloc] at this
  ·
   exact (Below.heap_alloc _ _ _ (by simp)).trans (World.alloc_heap_new w _)
 have hI1 : I 0 ((w.alloc (.deferred (some []))).alloc (.loop (R .ready none))) := hI.alloc _ (hI.alloc _ h0)
 have hb1 : Below w0.heap.size w0 ((w.alloc (.deferred (some []))).alloc (.loop (R .ready none))) := hb0.trans ((((Below.refl _ w).alloc (Nat.le_refl _) _).alloc (by simp) _).mono hb0.size)
 have hsz : d ≤ ((w.alloc (.deferred (some []))).alloc (.loop (R .ready none))).heap.size := by simp; omega
 have hR0 : Loop.mk .ready none fn a.tmps ps assign body w.heap.size = R .ready none := by rw [hR, hd]
 rw [hR0] at hstart
 generalize (w.alloc (.deferred (some []))).alloc (.loop (R .ready none)) = W1 at *
 subst hd
 refine ⟨w.heap.size + 1, [{ target := .collected w.heap.size, args := #[] }], W1, { target := .fn (.func gf) lb, args := #[.func (.yield (w.heap.size + 1)) #[] #[]] }, W1, gf, #[.func (.yield (w.heap.size + 1)) #[] #[]] ++ lb, W1, hstart, ?_, ?_, ?_, fun _ => h1, ?_⟩
 ·
  simp only [resolve, hg]; simp [go_sem]
 ·
  intro f' hf'; simp [Target.leads] at hf'; subst hf'; exact hFg
 ·
  simp [invoke, go_sem, eg]
 have hend : ∀ (j : Option Code) (s : LoopState) (q : Option Code) (V : World), Book w.heap.size (R s q) V → (Instr.endRound (w.heap.size + 1) j).run P V = .ok (.bool j.isNone) (V.putObj (w.heap.size + 1) (.loop (R (if j.isNone then .ready else .done) j))) := by
  intro j s q V h
  have := run_endRound (P := P) j h.loop
  rw [hR] at this ⊢
  exact this
 have hshut : ∀ (s : LoopState) (j : Option Code) (V : World), s ≠ .busy → Book w.heap.size (R s j) V → (Instr.endLoop (w.heap.size + 1)).run P V = .ok j (V.putObj (w.heap.size + 1) (.loop (R .exhausted j))) := by
  intro s j V hs h
  have := run_endLoop (P := P) h.loop (by rw [hR]; exact hs)
  rw [hR] at this ⊢
  exact this
 refine (hseq (w.heap.size + 1) (fun k V => I k V ∧ Book w.heap.size (R .ready none) V) (fun k V => ∃ c, Ix c k V ∧ Book w.heap.size (R .done (some c)) V) W1 hb1
  (fun k A B hm hs => ⟨hIm k A B (hm.mono hsz) hs.1, hs.2.moved hm⟩)
  (fun k A B hm hs => hs.imp fun c hc => ⟨hIxm c k A B (hm.mono hsz) hc.1, hc.2.moved hm⟩)
  ?_ ⟨hI1, hB⟩).mono ?_
 ·
  rintro k x W hx ⟨hi, hbk⟩
  have hy := run_yield (P := P) (args := encs x) hbk.loop (by rw [hR]; exact hps x)
  have hy' : (Instr.yield (w.heap.size + 1) (encs x)).run P W = .ok (.round (w.heap.size + 1) fn ((ps.zip (encs x)).foldl (fun t (p, v) => t.setIfInBounds p v) a.tmps) assign body) W := by rw [hy, hR]
  refine ⟨fn, _, assign, body, hy', roundIn_of_wpIn hfn (hassign _ k x W _ hx hi ?_)⟩
  intro a' V hkf hkp hi2 hax
  have hbV := hbk.keeps hkf
  have hbusy : (Instr.beginRound (w.heap.size + 1)).run P V = .ok () (V.putObj (w.heap.size + 1) (.loop (R .busy none))) := by
   have := run_beginRound (P := P) hbV.loop (by rw [hR])
   rw [this, hR]
  refine ⟨_, hbusy, ?_⟩
  have hb2 := hbV.put (R .busy none)
  have hk2 : Kp V (V.putObj (w.heap.size + 1) (.loop (R .busy none))) := hKb _ _ _ _ (by omega) hbV.loop rfl rfl
  refine wpIn_mono (hbody _ k x a' _ hx (by omega) ⟨_, hb2.loop⟩ (hI.putObj _ hi2 (by omega) hbV.loop rfl) ((hAx x a').putObj (s := ()) _ hax (by omega) hbV.loop rfl)) ?_
  have hout : ∀ (c : Code) (V3 : World), KeepsFrom w.heap.size (V.putObj (w.heap.size + 1) (.loop (R .busy none))) V3 → Ix c (k + 1) V3 →
    (Instr.endRound (w.heap.size + 1) (some c)).run P V3 = .ok (.bool false) (V3.putObj (w.heap.size + 1) (.loop (R .done (some c)))) ∧ ∃ c', Ix c' (k + 1) (V3.putObj (w.heap.size + 1) (.loop (R .done (some c)))) ∧ Book w.heap.size (R .done (some c')) (V3.putObj (w.heap.size + 1) (.loop (R .done (some c)))) := by
   intro c V3 h3 hx3
   have hb3 := hb2.keeps h3
   exact ⟨hend (some c) _ _ V3 hb3, c, (hIx c).putObj _ hx3 (by omega) hb3.loop rfl, hb3.put _⟩
  rintro e a3 V3 hp
  cases e with
  | normal =>
   obtain ⟨h3, hp3, hi3⟩ := hp
   have hb3 := hb2.keeps h3
   exact ⟨_, _, hend none _ _ V3 hb3, .inl ⟨rfl, ⟨hI.putObj _ hi3 (by omega) hb3.loop rfl, hb3.put _⟩, hKt hkp (hKt (hKt hk2 hp3) (hKb _ _ _ _ (by omega) hb3.loop rfl rfl))⟩⟩
  | ret => exact ⟨_, _, (hout .ret V3 hp.1 hp.2).1, .inr ⟨rfl, (hout .ret V3 hp.1 hp.2).2⟩⟩
  | exit id => exact ⟨_, _, (hout (.exit id) V3 hp.1 hp.2).1, .inr ⟨rfl, (hout (.exit id) V3 hp.1 hp.2).2⟩⟩
  | goto t => exact ⟨_, _, (hout (.goto t) V3 hp.1 hp.2).1, .inr ⟨rfl, (hout (.goto t) V3 hp.1 hp.2).2⟩⟩
  | panic ch => exact hp.elim
  | outgrown => exact hp.elim
 ·
  rintro e V ⟨⟨v, rfl⟩, (⟨hi, hbk⟩ | ⟨k, hk, c, hi, hbk⟩)⟩
  ·
   exact ⟨none, _, hshut .ready none V (by simp) hbk, hdone _ _ (Nat.le_refl _) (hI.putObj _ hi (by omega) hbk.loop rfl) ((World.putObj_heap_other (by omega)).trans hbk.mark)⟩
  ·
   exact ⟨some c, _, hshut .done (some c) V (by simp) hbk, hstop _ c k _ (Nat.le_refl _) hk ((hIx c).putObj _ hi (by omega) hbk.loop rfl) ((World.putObj_heap_other (by omega)).trans hbk.mark)⟩
end
end Go.ListRange
end
section
namespace Go.Proofs.YtefejajofmpjdaaGreat.PWalk
open Go.RowKit Go.Proofs.YtefejajofmpjdaaGreatW.PrintWords Go.Proofs.YtefejajofmpjdaaGreatW.PrintLast Go.Proofs.YtefejajofmpjdaaGreatW.PrintMore
set_option linter.unusedVariables false
set_option linter.unusedSimpArgs false
open Go.Shelf
attribute [local go_sem] Oper.semAt_some
set_option maxRecDepth 100000 in
set_option maxHeartbeats 1000000 in
section
theorem bkNodes_in (n lp Bs n₀ : Nat) (E : Nat → Prop) (A : Option Addr) (c0 : Nat) (xs : List Node) (hn : 1 ≤ n) (hm : xs.length ≤ 1000000) (J Jx : Nat → World → Prop)
  (hY : ∀ k x W, (bk xs)[k]? = some x → J k W → YieldAt Fence.wide (n - 1) Tryz.prog lp #[.int .i64 ((x : Nat × Node).1 : Int), vNode x.2] W fun e W' =>
   (e = .returned (.bool true) ∧ J (k + 1) W' ∧ KpE n₀ E W W') ∨ (e = .returned (.bool false) ∧ Jx (k + 1) W'))
  (W : World) (hBs : W.cell? ⟨Bs, 0, none⟩ = some (.slice A xs.length c0)) (hB0 : Bs < n₀) (hBE : ¬ E Bs) (hA : ∀ ad, A = some ad → 0 < xs.length → ad.block < n₀ ∧ ¬ E ad.block) (hr : Kd.C k42 W A xs.length xs) (h0 : J 0 W) :
  CallsIn Fence.wide n Tryz.prog 87 #[.func (.yield lp) #[] #[], .pointer (some ⟨Bs, 0, none⟩)] W fun e W' => (∃ v, e = .returned v) ∧
   (J (bk xs).length W' ∨ ∃ k, k ≤ (bk xs).length ∧ Jx k W') := by
 have hu := Tryz.underlying42
 have HY := za0.mk hY
 have HR := za0.mk hr
 have HA := za0.mk hA
 have HE := za0.mk hBE
 clear hY hr hA hBE
 refine callsIn_of_wp Tryz.func87 rfl trivial ?_ rfl
 simp only [Tryz.ntmps87, List.size_toArray, List.length_cons, List.length_nil, Nat.reduceAdd, Nat.reduceSub, Array.replicate_succ, Array.replicate_zero, List.push_toArray, List.append_toArray, List.nil_append, List.cons_append]
 gi_wp2
 gi_loopw [3] (fun i wr => ∃ k : Nat, k ≤ xs.length ∧ i = .int .i64 ((xs.length : Int) - 1 - k) ∧ za0 (J k wr) ∧ za0 (KpE n₀ E W wr)) (fun i _ => (intOf i + 1).toNat)
 case atStart => exact ⟨0, Nat.zero_le _, by simp, ⟨h0⟩, ⟨KpE.refl _ _ _⟩⟩
 case round =>
  obtain ⟨k, hk, rfl, hJ, hK⟩ := hrel
  have hs : wr.cell? ⟨Bs, 0, none⟩ = some (.slice A xs.length c0) := hK.out.cell (p := ⟨Bs, 0, none⟩) hB0 HE.out hBs
  by_cases hlt : k < xs.length
  ·
   obtain ⟨x, hx⟩ : ∃ x, za0 (xs[xs.length - 1 - k]? = some x) := ⟨_, ⟨List.getElem?_eq_getElem (by omega)⟩⟩
   obtain ⟨ad, e, g0, g1, g2, g3, g4, g5⟩ := node_at HR.out (Below.refl _ _) _ x hx.out
   subst e
   obtain ⟨ha, hae⟩ := HA.out ad rfl (by omega)
   have hbl : (ad.add ((xs.length - 1 - k) * 6)).block = ad.block := by unfold Addr.add; split <;> rfl
   replace g0 := hK.out.cell (p := ad.add ((xs.length - 1 - k) * 6)) (by rw [hbl]; exact ha) (by rw [hbl]; exact hae) g0
   replace g1 := hK.out.cell (p := ⟨_, _, none⟩) (by simp only [hbl]; exact ha) (by simp only [hbl]; exact hae) g1
   replace g2 := hK.out.cell (p := ⟨_, _, none⟩) (by simp only [hbl]; exact ha) (by simp only [hbl]; exact hae) g2
   replace g3 := hK.out.cell (p := ⟨_, _, none⟩) (by simp only [hbl]; exact ha) (by simp only [hbl]; exact hae) g3
   replace g4 := hK.out.cell (p := ⟨_, _, none⟩) (by simp only [hbl]; exact ha) (by simp only [hbl]; exact hae) g4
   replace g5 := hK.out.cell (p := ⟨_, _, none⟩) (by simp only [hbl]; exact ha) (by simp only [hbl]; exact hae) g5
   clear hbl hae ha
   have hx' : x = xs[xs.length - 1 - k]'(by omega) := by have := hx.out; rw [List.getElem?_eq_getElem (by omega)] at this; exact (Option.some.inj this).symm
   have HT : za0 ((bk xs)[k]? = some (xs.length - 1 - k, x)) := ⟨by rw [bk_get xs k hlt, hx']⟩
   clear hx'
   have hi : ((xs.length : Int) - 1 - k) = ((xs.length - 1 - k : Nat) : Int) := by omega
   rw [hi]
   obtain ⟨j, hj⟩ : ∃ j, za0 (j = xs.length - 1 - k) := ⟨_, ⟨rfl⟩⟩
   rw [← hj.out] at g0 g1 g2 g3 g4 g5 ⊢
   have hjl : j < xs.length := by rw [hj.out]; omega
   obtain ⟨fn, tmps, assign, body, hy, hR⟩ := HY.out k (j, x) wr (by rw [hj.out]; exact HT.out) hJ.out
   dsimp only at hy
   clear hi
   gi_wp2
   refine hR.mono ?_
   rintro e W3 (⟨rfl, hJ3, hk3⟩ | ⟨rfl, hJx3⟩)
   ·
    gi_wp2
    go_roundw
    case rel => exact ⟨k + 1, by omega, by rw [hj.out]; (try congr 1); (try omega), ⟨hJ3⟩, ⟨hK.out.trans hk3⟩⟩
    case measure => simp [intOf] <;> omega
   ·
    gi_wp2
    refine bodyPost_ret (results_none rfl _ _ _) rfl ?_
    exact ⟨⟨_, rfl⟩, .inr ⟨k + 1, by rw [bk_length]; omega, hJx3⟩⟩
  ·
   obtain rfl : k = xs.length := by omega
   have hi : ((xs.length : Int) - 1 - xs.length) = -1 := by omega
   rw [hi]
   clear hi
   gi_wp2
   go_end0
   exact ⟨⟨_, rfl⟩, .inl (by rw [bk_length]; exact hJ.out)⟩
def stepCells (p : Nat × Node) : List Value := zar p.2 ++ [.int .i64 p.1]
def stepsOf (l : List (Nat × Node)) : List Value := l.flatMap stepCells
theorem stepCells_length (p : Nat × Node) : (stepCells p).length = 7 := rfl
theorem stepsOf_length (l : List (Nat × Node)) : (stepsOf l).length = l.length * 7 := by
 induction l with
 | nil => rfl
 | cons x l ih => rw [stepsOf, List.flatMap_cons, List.length_append, ← stepsOf, ih, stepCells_length]; simp; omega
theorem stepsOf_append (l m : List (Nat × Node)) : stepsOf (l ++ m) = stepsOf l ++ stepsOf m := by simp [stepsOf]
theorem stepsOf_one (p : Nat × Node) : stepsOf [p] = stepCells p := by simp [stepsOf]
theorem stepCells_one (p : Nat × Node) : ∀ u ∈ stepCells p, u.oneCell' = true := by
 intro u hu
 simp [stepCells, zar] at hu
 rcases hu with rfl | rfl | rfl | rfl | rfl | rfl | rfl <;> rfl
/-- The row of the steps, the one that comes next at its end. -/
def Todo (W : World) (base : Nat) (u : Value) (S : List (Nat × Node)) : Prop := W.ownsRow base 149 7 u S.length (stepsOf S)
theorem Todo.nil (W : World) (base : Nat) : Todo W base (.slice none 0 0) [] := World.ownsRow_nil _ _ _ _
theorem Todo.keep {W V : World} {base : Nat} {u : Value} {S : List (Nat × Node)} (h : Todo W base u S) (hk : ∀ g, u.ownBlock = some g → V.heap[g]? = W.heap[g]?) : Todo V base u S := ownsRow_keep h hk
theorem Todo.block {W : World} {base : Nat} {u : Value} {S : List (Nat × Node)} (h : Todo W base u S) {g : Nat} (hg : u.ownBlock = some g) : base ≤ g ∧ ∃ cur, W.heap[g]? = some (.cells cur 149 (0, 0)) := by
 rcases h.2 with ⟨rfl, _⟩ | ⟨g', c, cur, rfl, hb, hcur, _⟩
 ·
  cases hg
 ·
  cases hg; exact ⟨hb, cur, hcur⟩
theorem Todo.below {W V : World} {base : Nat} {u : Value} {S : List (Nat × Node)} (h : Todo W base u S) (hb : Below W.heap.size W V) : Todo V base u S :=
 h.keep fun g hg => hb.block g (zae (h.block hg).2.choose_spec)
theorem Todo.slice {W : World} {base : Nat} {u : Value} {S : List (Nat × Node)} (h : Todo W base u S) : ∃ A c, u = .slice A S.length c := ownsRow_slice h
theorem row_pop {w : World} {base : Nat} {e : TypeId} {size g cap n : Nat} {xs last : List Value} (hx : xs.length = n * size)
  (h : w.ownsRow base e size (.slice (some ⟨g, 0, none⟩) (n + 1) cap) (n + 1) (xs ++ last)) : w.ownsRow base e size (.slice (some ⟨g, 0, none⟩) n cap) n xs := by
 obtain ⟨_, ⟨h0, _⟩ | ⟨g', cap', cur, hv, hg, hh, hn, hcap, hsz, htake⟩⟩ := h
 ·
  cases h0
 ·
  cases hv
  refine ⟨hx, .inr ⟨g, cap, cur, rfl, hg, hh, by omega, hcap, hsz, ?_⟩⟩
  have h3 : (cur.toList.take ((n + 1) * size)).take (n * size) = (xs ++ last).take (n * size) := by rw [htake]
  rw [List.take_take, Nat.min_eq_left (Nat.mul_le_mul_right _ (by omega))] at h3
  rw [h3, ← hx, List.take_left]
/-- A row is the same, or a new one. -/
def RowOr (W : World) (u u' : Value) : Prop := u'.ownBlock = u.ownBlock ∨ ∃ b, u'.ownBlock = some b ∧ W.heap.size ≤ b
theorem RowOr.refl (W : World) (u : Value) : RowOr W u u := .inl rfl
theorem RowOr.trans {W V : World} {a b c : Value} (h : RowOr W a b) (k : RowOr V b c) (hs : W.heap.size ≤ V.heap.size) : RowOr W a c := by
 rcases k with e | ⟨x, e, hx⟩
 ·
  rcases h with h | ⟨x, h, hx⟩
  ·
   exact .inl (e.trans h)
  ·
   exact .inr ⟨x, e.trans h, hx⟩
 ·
  exact .inr ⟨x, e, Nat.le_trans hs hx⟩
/-- The last step, in its cells. -/
theorem Todo.last {W : World} {base : Nat} {u : Value} {S : List (Nat × Node)} {p : Nat × Node} (h : Todo W base u (S ++ [p])) :
  ∃ g c, u = .slice (some ⟨g, 0, none⟩) (S.length + 1) c ∧ base ≤ g ∧ (∃ cur, W.heap[g]? = some (.cells cur 149 (0, 0))) ∧ (∀ i v, (stepCells p)[i]? = some v → W.cell? ⟨g, S.length * 7 + i, none⟩ = some v) ∧ Todo W base (.slice (some ⟨g, 0, none⟩) S.length c) S := by
 have h' := h
 unfold Todo at h'
 rw [List.length_append, stepsOf_append, stepsOf_one] at h'
 obtain ⟨g, c, rfl⟩ := ownsRow_succ h'
 refine ⟨g, c, rfl, (h.block rfl).1, (h.block rfl).2, fun i v hv => ?_, row_pop (stepsOf_length S) h'⟩
 have hi : i < 7 := (List.getElem?_eq_some_iff.1 hv).1
 rw [h'.cellAt (S.length * 7 + i) (by omega), List.getElem?_append_right (by rw [stepsOf_length]; omega), stepsOf_length, Nat.add_sub_cancel_left]
 exact hv
theorem infoSt : (Tryz.prog.info? 149).map (fun i => (i.zero, i.size, i.bytes)) = some (some (.agg #[(.int .i64 0), (.int .i64 0), (.int .i64 0), (.int .i64 0), (.int .i64 0), (.int .i32 0), (.int .i64 0)]), 7, 56) := by kernel_rfl
/-- One step is put behind the others. -/
theorem run_append_step (base : Nat) (ty : TypeId) (u : Value) (S : List (Nat × Node)) (p : Nat × Node) (g c : Nat) (w : World) (hu : Todo w base u S) (hg : w.heap[g]? = some (.cells (stepCells p).toArray 149 (0, 0))) (hb : base ≤ w.heap.size) (hl : S.length + 1 ≤ 1000001) :
  ∃ u' w', (Builtin.append_ #[146, 146] ty #[u, .slice (some ⟨g, 0, none⟩) 1 c]).run Tryz.prog w = .ok u' w' ∧ Todo w' base u' (S ++ [p]) ∧ w.grownBy w' u.ownBlock ∧ (u'.ownBlock = u.ownBlock ∨ u'.ownBlock = some w.heap.size) := by
 obtain ⟨i, hi, hz⟩ : ∃ i, Tryz.prog.info? 149 = some i ∧ (i.zero, i.size, i.bytes) = _ := by
  have := infoSt
  rcases h : Tryz.prog.info? 149 with _ | i
  ·
   rw [h] at this; cases this
  ·
   rw [h] at this; exact ⟨i, rfl, Option.some.inj this⟩
 simp only [Prod.mk.injEq] at hz
 obtain ⟨v', w', h1, h2, h3, _, h4⟩ := run_append_own_at (P := Tryz.prog) w base 146 ty 149 i _ 7 56 Tryz.underlying146 hi hz.1 hz.2.1 hz.2.2 rfl (by decide) u S.length (stepsOf S) hu ⟨g, 0, none⟩ 1 c (stepCells p) rfl
  (fun j v hv => by rw [add_lit, za4 hg, Nat.zero_add, List.getElem?_toArray]; exact hv) (stepCells_one p) (by simp only [maxLen]; omega) (by omega) hb
 refine ⟨v', w', h1, ?_, h3, h4⟩
 unfold Todo
 rw [stepsOf_append, stepsOf_one, List.length_append]
 exact h2
theorem wpListIn_append_eq {F : Fence} {n : Nat} {P : Program} {ops : Array Oper} {rest : List Oper} {o : Oper} {a : Act} {Q : Exit → Act → World → Prop} (hgd : o.guard = none) (s x : Operand) (t : TypeId) (ho : o.op = .call { callee := .builtin .append, args := #[s, x], argTypes := #[t, t] }) {v1 v2 v' : Value} {w w' : World}
  (hs : a.eval s = v1) (hx : a.eval x = v2) (hrun : (Builtin.append_ #[t, t] o.type #[v1, v2]).run P w = .ok v' w') (h : wpListIn F n P ops Q rest (a.put o.dst v') w') : wpListIn F n P ops Q (o :: rest) a w := by
 refine wpListIn_plain hgd fun K hK => ?_
 unfold Oper.wpIn
 refine ⟨by simp [Oper.about, ho, resolve, Target.leads, Sem.run_pure], ?_⟩
 rw [Oper.semAt_plain F _ _ (by rw [ho]; intro c hc'; cases hc')]
 simp [execOp, ho, resolve, invoke, builtin, hs, hx, hrun, Result.andThen]
 exact hK _ _ h
abbrev TODOc (u : Value) : Obj := .cells #[u] 146 (0, 0)
abbrev dotC (d : Dot) : Obj := .cells #[.int .i64 d.f0, .int .i64 d.f1] 39 (0, 0)
def pushed (l : List Node) (d : Dot) (dep : Nat) (k : Nat) : List (Nat × Node) := ((bk (kids l d)).take k).map fun p => (dep, p.2)
theorem pushed_succ {l : List Node} {d : Dot} {dep k : Nat} {x : Nat × Node} (h : (bk (kids l d))[k]? = some x) : pushed l d dep (k + 1) = pushed l d dep k ++ [(dep, x.2)] := by
 unfold pushed
 have hk := (List.getElem?_eq_some_iff.1 h).1
 rw [List.take_succ_eq_append_getElem hk, (List.getElem?_eq_some_iff.1 h).2, List.map_append]; rfl
theorem pushed_all (l : List Node) (d : Dot) (dep : Nat) : pushed l d dep (bk (kids l d)).length = ((kids l d).map fun y => (dep, y)).reverse := by
 unfold pushed
 rw [List.take_length, bk, List.map_reverse, List.map_map]
 congr 1
 rw [show ((fun p : Nat × Node => (dep, p.2)) ∘ fun p : Node × Nat => (p.2, p.1)) = (fun y => (dep, y)) ∘ Prod.fst from rfl, ← List.map_map, List.zipIdx_map_fst]
theorem pushed_length (l : List Node) (d : Dot) (dep k : Nat) : (pushed l d dep k).length ≤ (kids l d).length := by
 unfold pushed
 rw [List.length_map, List.length_take, bk_length]; omega
theorem stepOf_kids_le (l : List Node) (d : Dot) : (kids l d).length ≤ l.length := by rw [(kids_perm l d).length_eq]; exact List.length_filter_le _ _
theorem Tch.marks {E : Nat → Prop} {w W W' : World} (h : Tch E w W) (hm : OnlyMarks w.heap.size W W') : Tch E w W' :=
 ⟨hm.os.trans h.os, hm.tape.trans h.tape, hm.output.trans h.output, by rw [hm.size]; exact h.size, fun i hi he => (hm.block i (.inl hi)).trans (h.block i hi he)⟩
/-- What push touches. -/
def PushE (T : Nat) (u : Value) (i : Nat) : Prop := i = T ∨ u.ownBlock = some i
set_option maxHeartbeats 1000000 in
set_option maxRecDepth 100000 in
theorem push_call (fb base mp F T : Nat) (l : List Node) (d : Dot) (dep : Nat) (S : List (Nat × Node)) (u : Value) (w : World) (hfam : Fams fb w mp l) (hF : w.heap[F]? = some (boxF mp)) (hT : w.heap[T]? = some (TODOc u)) (hu : Todo w base u S) (hb : base ≤ w.heap.size)
  (hl : l.length ≤ 1000000) (hS : S.length + (kids l d).length ≤ 1000000) :
  Calls Tryz.prog 95 #[vDot d, .int .i64 (dep : Int), .pointer (some ⟨F, 0, none⟩), .pointer (some ⟨T, 0, none⟩)] w fun e w' => (∃ v, e = .returned v) ∧
   ∃ u', w'.heap[T]? = some (TODOc u') ∧ Todo w' base u' (S ++ ((kids l d).map fun y => (dep, y)).reverse) ∧ RowOr w u u' ∧ Tch (PushE T u) w w' := by
 have HFM := za0.mk hfam
 have HF := za0.mk hF
 have HT := za0.mk hT
 have HU := za0.mk hu
 have HL := za0.mk hl
 have HS := za0.mk hS
 have HBW := za0.mk hb
 have hgr := ((Gr.alloc w (dotC d)).trans (Gr.alloc _ (.cells #[.int .i64 (dep : Int)] 3 (0, 0)))).below
 have HG := za0.mk hgr
 have HD : za0 (((w.alloc (dotC d)).alloc (.cells #[.int .i64 (dep : Int)] 3 (0, 0))).heap[w.heap.size]? = some (dotC d)) := ⟨za6 (zaj _ _) _⟩
 have HI : za0 (((w.alloc (dotC d)).alloc (.cells #[.int .i64 (dep : Int)] 3 (0, 0))).heap[w.heap.size + 1]? = some (.cells #[.int .i64 (dep : Int)] 3 (0, 0))) := ⟨by have := zaj (w.alloc (dotC d)) (.cells #[.int .i64 (dep : Int)] 3 (0, 0)); rwa [World.size_alloc] at this⟩
 have hF1 := zab hF hgr
 have c0 : ((w.alloc (dotC d)).alloc (.cells #[.int .i64 (dep : Int)] 3 (0, 0))).cell? ⟨F, 0, none⟩ = _ := (za4 hF1 0).trans rfl
 have c1 : ((w.alloc (dotC d)).alloc (.cells #[.int .i64 (dep : Int)] 3 (0, 0))).cell? ⟨w.heap.size, 0, none⟩ = _ := (za4 HD.out 0).trans rfl
 have c2 : ((w.alloc (dotC d)).alloc (.cells #[.int .i64 (dep : Int)] 3 (0, 0))).cell? ⟨w.heap.size, 1, none⟩ = _ := (za4 HD.out 1).trans rfl
 have HFM1 := za0.mk (hfam.below hgr)
 clear hfam hF hT hu hl hS hgr hF1 hb HFM
 refine calls_of_wp_m Tryz.func95 rfl ?_
 simp only [Tryz.ntmps95, List.size_toArray, List.length_cons, List.length_nil, Nat.reduceAdd, Nat.reduceSub, Array.replicate_succ, Array.replicate_zero, List.push_toArray, List.append_toArray, List.nil_append, List.cons_append]
 go_wp2_with fail
 refine (of_call fb mp l d _ HFM1.out).mono ?_
 rintro e w1 ⟨v, rfl, hr, hb1⟩
 obtain ⟨A, c, rfl⟩ := Kd.R_slice hr
 obtain ⟨n, Hn⟩ : ∃ n, za0 ((kids l d).length = n) := ⟨_, ⟨rfl⟩⟩
 rw [Hn.out] at hr
 rw [Hn.out]
 have HR := za0.mk hr
 have HB := za0.mk (za8 HG.out hb1)
 have HI := za0.mk (zab HI.out hb1)
 clear hr hb1 c0 c1 c2 HD HG
 go_wp2_with fail
 refine (BackwardNode.calls A n c w1).mono ?_
 rintro e w2 ⟨rfl, rfl⟩
 go_wp2_with fail
 have HBS : za0 ((w1.alloc (.cells #[.slice A n c] 22)).heap[w1.heap.size]? = some (.cells #[.slice A n c] 22 (0, 0))) := ⟨zaj _ _⟩
 have hg1 := (Gr.alloc w1 (.cells #[.slice A n c] 22 (0, 0))).below
 have HR1 := za0.mk (HR.out.below' hg1)
 have HI1 := za0.mk (zab HI.out hg1)
 have HB1 := za0.mk (za8 HB.out hg1)
 have HBSz : za0 (w1.heap.size < (w1.alloc (.cells #[.slice A n c] 22)).heap.size) := ⟨by rw [World.size_alloc]; omega⟩
 have HDz : za0 (w.heap.size + 1 < (w1.alloc (.cells #[.slice A n c] 22)).heap.size) := ⟨Nat.lt_of_lt_of_le (zae HI.out) (by rw [World.size_alloc]; omega)⟩
 clear hg1 HR HI HB
 generalize w1.alloc (.cells #[.slice A n c] 22 (0, 0)) = W1 at *
 obtain ⟨Bs, HBs⟩ : ∃ Bs, za0 (w1.heap.size = Bs) := ⟨_, ⟨rfl⟩⟩
 obtain ⟨Di, HDi⟩ : ∃ Di, za0 (w.heap.size + 1 = Di) := ⟨_, ⟨rfl⟩⟩
 obtain ⟨Dd, HDd⟩ : ∃ Dd, za0 (w.heap.size = Dd) := ⟨_, ⟨rfl⟩⟩
 rw [HBs.out] at HBS HBSz ⊢
 rw [HDi.out] at HI1 HDz ⊢
 rw [show (Value.pointer (some { block := w.heap.size, off := 0 })) = .pointer (some ⟨Dd, 0, none⟩) by rw [HDd.out]]
 have HT1 := za0.mk (zab HT.out HB1.out)
 have HU1 := za0.mk (HU.out.below HB1.out)
 have HA : za0 (∀ i cells t, W1.heap[i]? = some (.cells cells t (0, 0)) → t ≠ 146 → t ≠ 149 → ¬ PushE T u i) := ⟨by
  rintro i cells t h h1 h2 (rfl | e)
  ·
   rw [HT1.out] at h; exact h1 (Obj.cells.inj (Option.some.inj h)).2.1.symm
  ·
   obtain ⟨cur, hc⟩ := (HU1.out.block e).2
   rw [hc] at h; exact h2 (Obj.cells.inj (Option.some.inj h)).2.1.symm⟩
 refine wpIn_wide.1 (ListRange.wpIn_range (n := 9) (F := Fence.wide) rfl (by decide) (gf := 87) (lb := #[.pointer (some ⟨Bs, 0, none⟩)]) rfl trivial Tryz.call87
  (encs := fun x : Nat × Node => #[.int .i64 (x.1 : Int), vNode x.2]) (Kp := KpE W1.heap.size (PushE T u)) (L := bk (kids l d)) (w0 := W1)
  (fun lp J Jx W hWW _ _ hY h0 => bkNodes_in 8 lp Bs W1.heap.size (PushE T u) A c (kids l d) (by decide) (Nat.le_trans (stepOf_kids_le l d) HL.out) J Jx hY W (by rw [Hn.out]; exact (hWW.cell (p := ⟨Bs, 0, none⟩) HBSz.out).trans ((za4 HBS.out 0).trans rfl)) HBSz.out
   (HA.out Bs _ _ HBS.out (by decide) (by decide))
   (fun ad e hp => by
    obtain ⟨g, cap, e2, _, hlt, cells, hce⟩ := Kd.R_form HR1.out hp
    cases e2; cases e
    exact ⟨hlt, HA.out _ _ _ hce (by decide) (by decide)⟩)
   (by obtain ⟨_, _, e, _, hC⟩ := Kd.R_reads HR1.out; cases e; exact Kd.C_below hC hWW) h0)
  (fun h k => h.trans k) (fun W l o o' hl _ _ _ => KpE.put (Nat.le_refl _) W l o o' hl) (Below.refl _ _) (fun _ => rfl)
  (fun k W => ∃ u', W.heap[T]? = some (TODOc u') ∧ Todo W base u' (S ++ pushed l d dep k) ∧ RowOr W1 u u' ∧ Tch (PushE T u) W1 W)
  (fun _ _ _ => False)
  ?own (fun _ _ _ _ _ hs _ _ => hs) ⟨u, HT1.out, by rw [show pushed l d dep 0 = [] from rfl, List.append_nil]; exact HU1.out, RowOr.refl _ _, ⟨rfl, rfl, rfl, Nat.le_refl _, fun _ _ _ => rfl⟩⟩
  (fun x a' W => ∃ Nb, W1.heap.size ≤ Nb ∧ W.heap[Nb]? = some (boxN x.2) ∧ a' = { tmps := #[vDot d, .int .i64 (dep : Int), .pointer (some ⟨F, 0, none⟩), .pointer (some ⟨T, 0, none⟩), .pointer (some ⟨Dd, 0, none⟩), .pointer (some ⟨Di, 0, none⟩), undef, .pointer (some ⟨Nb, 0, none⟩), vFam mp, vDot d, .slice A n c, .func (.func 87) #[] #[.pointer (some ⟨Bs, 0, none⟩)], .int .i64 (x.1 : Int), vNode x.2, undef, undef, undef, undef, undef, undef], defers := [] })
  (fun x a' _ W W' row hs hg hr => by
   obtain ⟨Nb, h1, h2, h3⟩ := hs
   exact ⟨Nb, h1, (hg.block Nb (zae h2) (fun e => by obtain ⟨_, o, ho, hc⟩ := hr Nb e.symm; rw [h2] at ho; cases ho; cases hc)).trans h2, h3⟩)
  ?assign ?body ?done ?stop)
 case own =>
  rintro k W W' row ⟨u', h1, h2, h4, h3⟩ hg hr
  have hnc : ∀ q cells t, W.heap[q]? = some (Obj.cells cells t (0, 0)) → W'.heap[q]? = W.heap[q]? := fun q cells t hq => hg.block q (zae hq) (fun e => by obtain ⟨_, o, ho, hc⟩ := hr q e.symm; rw [hq] at ho; cases ho; cases hc)
  exact ⟨u', (hnc T _ _ h1).trans h1, h2.keep (fun g hgg => by obtain ⟨_, cur, hcur⟩ := h2.block hgg; exact hnc _ _ _ hcur), h4, h3.trans (Tch.grown (E := fun i => W1.heap.size ≤ i) hg (fun r e => (hr r e).1)) (fun i hi e => by omega)⟩
 case assign =>
  rintro lp k x W K hx ⟨u', h1, h2, h4, h3⟩ hK
  gi_wp2
  exact hK _ _ ((KeepsOthers.alloc _ _).from _) (KpE.below ((Below.refl _ W).alloc h3.size _)) ⟨u', za6 h1 _, h2.below (Gr.alloc W _).below, h4, h3.trans (Tch.below (E := fun _ => False) (Gr.alloc W _).below) (fun _ _ h => h.elim)⟩ ⟨W.heap.size, h3.size, zaj _ _, rfl⟩
 case body =>
  rintro lp k x a' W hx hl2 ⟨rr, hrr⟩ ⟨u', h1, h2, h4, h3⟩ ⟨Nb, hx1, hx2, rfl⟩
  obtain ⟨A', c', rfl⟩ := h2.slice
  obtain ⟨n', Hn'⟩ : ∃ n', za0 ((S ++ pushed l d dep k).length = n') := ⟨_, ⟨rfl⟩⟩
  rw [Hn'.out] at h1 h2 h4
  have hlt : n' ≤ 1000000 := by have h1 := Hn'.out; have h2 := pushed_length l d dep k; have h3 := HS.out; rw [List.length_append] at h1; omega
  have cT : W.cell? ⟨T, 0, none⟩ = _ := (za4 h1 0).trans rfl
  have n0 : W.cell? ⟨Nb, 0, none⟩ = _ := (za4 hx2 0).trans rfl
  have n1 : W.cell? ⟨Nb, 1, none⟩ = _ := (za4 hx2 1).trans rfl
  have n2 : W.cell? ⟨Nb, 2, none⟩ = _ := (za4 hx2 2).trans rfl
  have n3 : W.cell? ⟨Nb, 3, none⟩ = _ := (za4 hx2 3).trans rfl
  have n4 : W.cell? ⟨Nb, 4, none⟩ = _ := (za4 hx2 4).trans rfl
  have n5 : W.cell? ⟨Nb, 5, none⟩ = _ := (za4 hx2 5).trans rfl
  have hDI : W.heap[Di]? = some (.cells #[.int .i64 (dep : Int)] 3 (0, 0)) := (h3.block Di HDz.out (HA.out Di _ _ HI1.out (by decide) (by decide))).trans HI1.out
  have cD : W.cell? ⟨Di, 0, none⟩ = _ := (za4 hDI 0).trans rfl
  have hb0 : base ≤ W.heap.size := Nat.le_trans HBW.out (Nat.le_trans HB1.out.size h3.size)
  obtain ⟨u2, w2, hrun, htd, hgr, hat⟩ := run_append_step base 146 (.slice A' n' c') (S ++ pushed l d dep k) (dep, x.2) W.heap.size 1 (W.alloc (.cells (stepCells (dep, x.2)).toArray 149 (0, 0))) (h2.below (Gr.alloc W _).below) (zaj _ _) (Nat.le_trans hb0 (by rw [World.size_alloc]; omega)) (by rw [Hn'.out]; omega)
  obtain ⟨A2, c2, rfl⟩ := htd.slice
  obtain ⟨m2, hn2⟩ : ∃ m2, (S ++ pushed l d dep k ++ [(dep, x.2)]).length = m2 := ⟨_, rfl⟩
  rw [hn2] at hrun htd hat
  clear hn2
  have hTne : some T ≠ (Value.slice A' n' c').ownBlock := fun e => by
   obtain ⟨_, cur, hc⟩ := h2.block e.symm
   rw [h1] at hc
   exact absurd (Obj.cells.inj (Option.some.inj hc)).2.1 (by decide)
  have hT2 : w2.heap[T]? = some (TODOc (.slice A' n' c')) := (hgr.block T (Nat.lt_of_lt_of_le (zae h1) (by rw [World.size_alloc]; omega)) hTne).trans (za6 h1 _)
  have cT2 : w2.cell? ⟨T, 0, none⟩ = _ := (za4 hT2 0).trans rfl
  have fT2 := za9 hT2 0
  have HT2 := za0.mk hT2
  have HTne := za0.mk hTne
  have HRUN := za0.mk hrun
  have H4 := za0.mk h4
  have HAT := za0.mk hat
  have H1 := za0.mk h1
  have H2 := za0.mk h2
  have H3 := za0.mk h3
  have HTD := za0.mk htd
  have HGR := za0.mk hgr
  have HX := za0.mk hx
  clear h1 h2 h3 h4 hat hx hx1 hx2 hDI hb0 htd hgr hrun hT2 hTne
  obtain ⟨x0, x1⟩ := x
  dsimp only at n0 n1 n2 n3 n4 n5 ⊢
  gi_wp2_with (gi_at_builtin; refine wpListIn_append_eq rfl (.tmp 14) (.tmp 18) 146 rfl rfl rfl HRUN.out ?_)
  obtain ⟨u2, hu2⟩ : ∃ u2, Value.slice A2 m2 c2 = u2 := ⟨_, rfl⟩
  have HAT := HAT.out
  have HTD := HTD.out
  rw [hu2] at HAT HTD ⊢
  have hV : ∀ q, q ≠ T → (w2.setCell ⟨T, 0, none⟩ u2).heap[q]? = w2.heap[q]? := fun q hq => Below.heap_setCell w2 _ _ q hq
  have hq2 : ∀ q, q < W.heap.size → q ≠ T → (Value.slice A' n' c').ownBlock ≠ some q → (w2.setCell ⟨T, 0, none⟩ u2).heap[q]? = W.heap[q]? := fun q hq h1 h2 => by
   rw [hV q h1, HGR.out.block q (by rw [World.size_alloc]; omega) (fun e => h2 e.symm), Below.heap_alloc W _ q hq]
  have hsz : W.heap.size ≤ (w2.setCell ⟨T, 0, none⟩ u2).heap.size := by rw [World.size_setCell]; exact Nat.le_trans (by rw [World.size_alloc]; omega) HGR.out.size
  have hrow : RowOr W1 u u2 := by
   refine H4.out.trans (V := W) (b := .slice A' n' c') ?_ H3.out.size
   rcases HAT with e | e
   ·
    exact .inl e
   ·
    exact .inr ⟨_, e, by rw [World.size_alloc]; omega⟩
  have hnE : ∀ q, q < W1.heap.size → ¬ PushE T u q → q ≠ T ∧ (Value.slice A' n' c').ownBlock ≠ some q := fun q hq hE => ⟨fun e => hE (.inl e), fun e => by
   rcases H4.out with h | ⟨b, h, hb⟩
   ·
    exact hE (.inr (h ▸ e))
   ·
    rw [h] at e; have := Option.some.inj e; omega⟩
  refine ⟨⟨hsz, fun q o hB hq hoc => (hq2 q (zae hq) (fun e => ?_) (fun e => ?_)).trans hq⟩, ⟨hsz, fun q hq hE => hq2 q (Nat.lt_of_lt_of_le hq H3.out.size) (hnE q hq hE).1 (hnE q hq hE).2⟩, u2, ?_, ?_, hrow, ?_⟩
  ·
   subst e; rw [H1.out] at hq; cases hq; cases hoc
  ·
   obtain ⟨_, cur, hc⟩ := H2.out.block e
   rw [hc] at hq; cases hq; cases hoc
  ·
   exact blk_set HT2.out 0 _
  ·
   rw [pushed_succ HX.out, ← List.append_assoc]
   refine HTD.keep (fun g hg => hV g (fun e => ?_))
   subst e
   obtain ⟨_, cur, hc⟩ := HTD.block hg
   rw [HT2.out] at hc
   exact absurd (Obj.cells.inj (Option.some.inj hc)).2.1 (by decide)
  ·
   refine H3.out.trans (E' := fun i => i = T ∨ (Value.slice A' n' c').ownBlock = some i) ⟨?_, ?_, ?_, hsz, fun q hq hE => hq2 q hq (fun e => hE (.inl e)) (fun e => hE (.inr e))⟩ (fun i hi hE => Classical.byContradiction fun hn => ?_)
   ·
    exact HGR.out.os
   ·
    exact HGR.out.tape
   ·
    exact HGR.out.output
   ·
    obtain ⟨h1, h2⟩ := hnE i hi hn
    exact hE.elim h1 h2
 case done =>
  rintro D W hD ⟨u', h1, h2, h4, h3⟩ hDK
  rw [pushed_all] at h2
  have HEND : za0 (W.heap[T]? = some (TODOc u') ∧ Todo W base u' (S ++ ((kids l d).map fun y => (dep, y)).reverse) ∧ RowOr w u u' ∧ Tch (PushE T u) w W) := ⟨h1, h2, (RowOr.refl w u).trans h4 HB1.out.size, (Tch.below HB1.out).trans h3 (fun i _ e => e)⟩
  have HD := za0.mk hD
  have HDK := za0.mk hDK
  clear h1 h2 h3 h4 hD hDK
  go_wp2
  refine leaves_of_marks2 (n0 := w.heap.size) [mkMark D] _ ⟨[D], rfl, by simp, fun E hE => ?_⟩ (fun W' hm => ⟨_, results_none rfl _ _ W', ⟨_, rfl⟩, u', (hm.block T (.inr fun o e => ?_)).trans HEND.out.1, HEND.out.2.1.keep (fun g hg => hm.block g (.inr fun o e => ?_)), HEND.out.2.2.1, HEND.out.2.2.2.marks hm⟩)
  ·
   simp only [List.mem_singleton] at hE
   subst hE
   exact ⟨Nat.le_trans HB1.out.size HD.out, HDK.out⟩
  ·
   rw [HEND.out.1] at e; cases e
  ·
   obtain ⟨_, cur, hc⟩ := HEND.out.2.1.block hg
   rw [hc] at e; cases e
 case stop =>
  rintro D c k W _ _ h _
  exact h.elim
/-- The types of the blocks that families.below keeps for itself. -/
def ownT (t : Nat) : Prop := t = 116 ∨ t = 149 ∨ t = 146
instance (t : Nat) : Decidable (ownT t) := by unfold ownT; infer_instance
structure KpT (n : Nat) (E : Nat → Prop) (W W' : World) : Prop where
 kp : KpE n E W W'
 own : ∀ (i : Nat) (c : Array Value) (t : Nat), W.heap[i]? = some (.cells c t (0, 0)) → ownT t → W'.heap[i]? = some (.cells c t (0, 0))
theorem KpT.trans {n : Nat} {E : Nat → Prop} {A B C : World} (h : KpT n E A B) (k : KpT n E B C) : KpT n E A C := ⟨h.kp.trans k.kp, fun i c t hi ht => k.own i c t (h.own i c t hi ht) ht⟩
theorem KpT.below {n : Nat} {E : Nat → Prop} {A B : World} (h : Below A.heap.size A B) (hn : n ≤ A.heap.size) : KpT n E A B := ⟨KpE.below (h.mono hn), fun i c t hi _ => zab hi h⟩
theorem KpT.put {n m : Nat} {E : Nat → Prop} (hn : n ≤ m) (W : World) (l : Nat) (o o' : Obj) (hl : m ≤ l) (ho : W.heap[l]? = some o) (hc : o.isCells = false) : KpT n E W (W.putObj l o') :=
 ⟨KpE.put hn W l o o' hl, fun i c t hi _ => (World.putObj_heap_other (fun e => by subst e; rw [hi] at ho; cases ho; cases hc)).trans hi⟩
def famBl (mp : Nat) (v : Value) (vs : List Value) (i : Nat) : Prop := i = mp ∨ v.ownBlock = some i ∨ ∃ u ∈ vs, u.ownBlock = some i
theorem zip_of_mem {ks : List Dot} {vs : List Value} (hl : vs.length = ks.length) {u : Value} (hu : u ∈ vs) : ∃ d, (d, u) ∈ ks.zip vs := by
 obtain ⟨i, hi⟩ := List.getElem?_of_mem hu
 have hil := (List.getElem?_eq_some_iff.1 hi).1
 exact ⟨ks[i]'(by omega), List.mem_of_getElem? (i := i) (by rw [List.getElem?_zip_eq_some]; exact ⟨List.getElem?_eq_getElem _, hi⟩)⟩
theorem FamSt.typed {base : Nat} {W : World} {mp : Nat} {v : Value} {ks : List Dot} {vs : List Value} {fam : Dot → List Node} (h : FamSt base W mp v ks vs fam) {i : Nat} (hi : famBl mp v vs i) :
  ∃ (c : Array Value) (t : Nat), W.heap[i]? = some (.cells c t (0, 0)) ∧ (t = 159 ∨ t = 162 ∨ t = 42) := by
 rcases hi with rfl | e | ⟨u, hu, e⟩
 ·
  exact ⟨_, _, h.map.map, .inl rfl⟩
 ·
  rcases h.map.row.2 with ⟨rfl, _⟩ | ⟨g', c, cur, rfl, _, hcur, _⟩
  ·
   cases e
  ·
   cases e; exact ⟨_, _, hcur, .inr (.inl rfl)⟩
 ·
  obtain ⟨d, hd⟩ := zip_of_mem h.map.len hu
  obtain ⟨_, cur, hc⟩ := (h.rows d u hd).block e
  exact ⟨_, _, hc, .inr (.inr rfl)⟩
theorem FamSt.keep {base : Nat} {W V : World} {mp : Nat} {v : Value} {ks : List Dot} {vs : List Value} {fam : Dot → List Node} (h : FamSt base W mp v ks vs fam) (hk : ∀ i, famBl mp v vs i → V.heap[i]? = W.heap[i]?) : FamSt base V mp v ks vs fam :=
 ⟨h.map.keep (hk mp (.inl rfl)) (fun g hg => hk g (.inr (.inl hg))), fun d u hm => (h.rows d u hm).keep (fun g hg => hk g (.inr (.inr ⟨u, (List.of_mem_zip hm).2, hg⟩))), h.sep, h.none⟩
/-- The families of l, in blocks below n that are not in E. -/
def FamsIn (fb n : Nat) (E : Nat → Prop) (W : World) (mp : Nat) (l : List Node) : Prop := ∃ v ks vs, FamSt fb W mp v ks vs (kids l) ∧ ∀ i, famBl mp v vs i → i < n ∧ ¬ E i
theorem FamsIn.fams {fb n : Nat} {E : Nat → Prop} {W : World} {mp : Nat} {l : List Node} (h : FamsIn fb n E W mp l) : Fams fb W mp l := by
 obtain ⟨v, ks, vs, h, _⟩ := h
 exact ⟨v, ks, vs, h⟩
theorem FamsIn.of {fb n : Nat} {E : Nat → Prop} {W : World} {mp : Nat} {l : List Node} (h : Fams fb W mp l) (hn : W.heap.size ≤ n) (hE : ∀ (i : Nat) (c : Array Value) (t : Nat), E i → W.heap[i]? = some (.cells c t (0, 0)) → t ≠ 159 ∧ t ≠ 162 ∧ t ≠ 42) : FamsIn fb n E W mp l := by
 obtain ⟨v, ks, vs, h⟩ := h
 refine ⟨v, ks, vs, h, fun i hi => ?_⟩
 obtain ⟨c, t, hc, ht⟩ := h.typed hi
 refine ⟨Nat.lt_of_lt_of_le (zae hc) hn, fun he => ?_⟩
 obtain ⟨h1, h2, h3⟩ := hE i c t he hc
 rcases ht with e | e | e
 ·
  exact h1 e
 ·
  exact h2 e
 ·
  exact h3 e
theorem FamsIn.kp {fb n : Nat} {E : Nat → Prop} {W V : World} {mp : Nat} {l : List Node} (h : FamsIn fb n E W mp l) (hk : KpE n E W V) : FamsIn fb n E V mp l := by
 obtain ⟨v, ks, vs, h, hb⟩ := h
 exact ⟨v, ks, vs, h.keep fun i hi => hk.2 i (hb i hi).1 (hb i hi).2, hb⟩
theorem FamsIn.below {fb n : Nat} {E : Nat → Prop} {W V : World} {mp : Nat} {l : List Node} (h : FamsIn fb n E W mp l) (hb : Below W.heap.size W V) : FamsIn fb n E V mp l := by
 obtain ⟨v, ks, vs, h, h2⟩ := h
 exact ⟨v, ks, vs, h.below hb, h2⟩
theorem FamsIn.tch {fb n : Nat} {E X : Nat → Prop} {W V : World} {mp : Nat} {l : List Node} (h : FamsIn fb n E W mp l) (hk : Tch X W V) (hX : ∀ (i : Nat) (c : Array Value) (t : Nat), X i → W.heap[i]? = some (.cells c t (0, 0)) → ownT t) : FamsIn fb n E V mp l := by
 obtain ⟨v, ks, vs, h, hb⟩ := h
 refine ⟨v, ks, vs, h.keep fun i hi => ?_, hb⟩
 obtain ⟨c, t, hc, ht⟩ := h.typed hi
 refine hk.block i (zae hc) fun hx => ?_
 have := hX i c t hx hc
 rcases ht with rfl | rfl | rfl <;> revert this <;> decide
theorem mv_tch {X : Nat → Prop} {b : Nat} {W V : World} (hk : Tch X W V) (hX : ∀ i, i < W.heap.size → X i → b ≤ i ∧ ∃ (c : Array Value) (t : Nat), W.heap[i]? = some (.cells c t (0, 0)) ∧ ownT t) : ListRange.Mv ownT b W V :=
 ⟨hk.os, hk.tape, hk.output, hk.size, fun i hi hc => hk.block i hi fun hx => by
  obtain ⟨h1, c, t, h2, h3⟩ := hX i hi hx
  rcases hc with h | h
  ·
   omega
  ·
   exact h c t h2 h3⟩
/-- What waits on the stack, its top at the end. -/
structure Stk (l : List Node) (dep : Nat) (d : Dot) (k : Nat) (S : List (Nat × Node)) : Prop where
 rest : restOf l S.reverse = (belowOf l dep d).drop k
 way : ∀ p ∈ S, ∃ V, Path l p.2.f0 (p.2 :: V) ∧ p.1 ≤ V.length + dep
theorem Stk.le {l : List Node} {dep : Nat} {d : Dot} {k : Nat} {S : List (Nat × Node)} (h : Stk l dep d k S) : S.length ≤ (belowOf l dep d).length := by
 have := restOf_le l S.reverse
 rw [h.rest, List.length_drop, List.length_reverse] at this
 omega
theorem Stk.start {l : List Node} (hs : Store l) {d : Dot} {U : List Node} (h : Path l d U) (dep : Nat) : Stk l dep d 0 ((kids l d).map fun y => (dep, y)).reverse := by
 refine ⟨by rw [List.reverse_reverse, restOf_kids hs h dep, List.drop_zero], fun p hp => ?_⟩
 obtain ⟨y, hy, rfl⟩ := List.mem_map.1 (List.mem_reverse.1 hp)
 obtain ⟨hy, e⟩ := mem_kids.1 hy
 exact ⟨U, .step d U y h hy e, by simp⟩
theorem Stk.empty {l : List Node} {dep : Nat} {d : Dot} {k : Nat} (h : Stk l dep d k []) : (belowOf l dep d).length ≤ k := by
 have := congrArg List.length h.rest
 rw [List.length_drop] at this
 simp [restOf] at this
 omega
theorem Stk.step {l : List Node} (hs : Store l) {dep : Nat} {d : Dot} {k : Nat} {S : List (Nat × Node)} {p : Nat × Node} (h : Stk l dep d k (S ++ [p])) :
  (belowOf l dep d)[k]? = some p ∧ Stk l dep d (k + 1) (S ++ ((kids l p.2.f0).map fun y => (p.1 + 1, y)).reverse) := by
 obtain ⟨V, hV, hp⟩ := h.way p (by simp)
 have hr := h.rest
 rw [List.reverse_append, List.reverse_singleton, List.singleton_append, restOf_cons hs hV] at hr
 have hk : k < (belowOf l dep d).length := by
  refine Nat.lt_of_not_le fun hk => ?_
  rw [List.drop_eq_nil_of_le hk] at hr; cases hr
 rw [List.drop_eq_getElem_cons hk] at hr
 refine ⟨by rw [List.getElem?_eq_getElem hk, ← (List.cons.inj hr).1], by rw [List.reverse_append, List.reverse_reverse]; exact (List.cons.inj hr).2, fun q hq => ?_⟩
 rcases List.mem_append.1 hq with hq | hq
 ·
  exact h.way q (List.mem_append_left _ hq)
 ·
  obtain ⟨y, hy, rfl⟩ := List.mem_map.1 (List.mem_reverse.1 hq)
  obtain ⟨hy, e⟩ := mem_kids.1 hy
  exact ⟨p.2 :: V, .step _ _ y hV hy e, by simp; omega⟩
abbrev boxS (p : Nat × Node) : Obj := .cells #[.int .i64 p.2.f0.f0, .int .i64 p.2.f0.f1, .int .i64 p.2.f1.f0, .int .i64 p.2.f1.f1, .int .i64 p.2.f2, .int .i32 p.2.f3, .int .i64 (p.1 : Int)] 149 (0, 0)
theorem Todo.cap {W : World} {base g m c : Nat} {S : List (Nat × Node)} (h : Todo W base (.slice (some ⟨g, 0, none⟩) m c) S) : m ≤ c ∧ c ≤ maxLen := by
 rcases h.2 with ⟨e, _⟩ | ⟨g', c', cur, e, _, _, h1, h2, _⟩
 ·
  cases e
 ·
  cases e; exact ⟨h1, h2⟩
/-- How the loop stands after k rounds. -/
structure BlwF (fb n₀ : Nat) (E : Nat → Prop) (J : Nat → World → Prop) (mp F T b0 : Nat) (l : List Node) (dep : Nat) (d : Dot) (k : Nat) (S : List (Nat × Node)) (u : Value) (W : World) : Prop where
 stk : Stk l dep d k S
 todoC : W.heap[T]? = some (TODOc u)
 row : Todo W b0 u S
 low : b0 ≤ T ∧ b0 ≤ W.heap.size
 fam : FamsIn fb n₀ E W mp l
 box : W.heap[F]? = some (boxF mp)
 j : J k W
theorem BlwF.mv {b0 : Nat} {W V : World} {b T : Nat} {u : Value} (hb : b ≤ b0) (hT : b0 ≤ T) (hC : W.heap[T]? = some (TODOc u)) (hR : ∀ g, u.ownBlock = some g → b0 ≤ g ∧ ∃ cur, W.heap[g]? = some (.cells cur 149 (0, 0))) (h : Tch (PushE T u) W V) : ListRange.Mv ownT b W V := by
 refine mv_tch h fun i hi hx => ?_
 rcases hx with rfl | e
 ·
  exact ⟨Nat.le_trans hb hT, _, _, hC, .inr (.inr rfl)⟩
 ·
  obtain ⟨h1, cur, h2⟩ := hR i e
  exact ⟨Nat.le_trans hb h1, _, _, h2, .inr (.inl rfl)⟩
theorem BlwF.fams {fb n₀ : Nat} {E : Nat → Prop} {mp : Nat} {l : List Node} {b0 : Nat} {W V : World} {T : Nat} {u : Value} (hf : FamsIn fb n₀ E W mp l) (hC : W.heap[T]? = some (TODOc u)) (hR : ∀ g, u.ownBlock = some g → b0 ≤ g ∧ ∃ cur, W.heap[g]? = some (.cells cur 149 (0, 0))) (h : Tch (PushE T u) W V) : FamsIn fb n₀ E V mp l := by
 refine hf.tch h fun i c t hx hi => ?_
 rcases hx with rfl | e
 ·
  rw [hC] at hi; cases hi; exact .inr (.inr rfl)
 ·
  obtain ⟨_, cur, h2⟩ := hR i e
  rw [h2] at hi; cases hi; exact .inr (.inl rfl)
theorem push_far {W V : World} {b0 T : Nat} {u : Value} (hC : W.heap[T]? = some (TODOc u)) (hR : ∀ g, u.ownBlock = some g → b0 ≤ g ∧ ∃ cur, W.heap[g]? = some (.cells cur 149 (0, 0))) (h : Tch (PushE T u) W V) {i : Nat} {c : Array Value} {t : Nat} (hi : W.heap[i]? = some (.cells c t (0, 0))) (ht : t ≠ 149 ∧ t ≠ 146) : V.heap[i]? = some (.cells c t (0, 0)) := by
 refine (h.block i (zae hi) fun hx => ?_).trans hi
 rcases hx with rfl | e
 ·
  rw [hC] at hi; cases hi; exact ht.2 rfl
 ·
  obtain ⟨_, cur, h2⟩ := hR i e
  rw [h2] at hi; cases hi; exact ht.1 rfl
set_option maxHeartbeats 2000000 in
set_option maxRecDepth 100000 in
theorem below_in (n lp fb n₀ mp : Nat) (E : Nat → Prop) (l : List Node) (d : Dot) (dep : Nat) (U : List Node) (hn : 1 ≤ n) (hs : Store l) (hU : Path l d U) (hl : l.length ≤ 1000000) (hlen : (belowOf l dep d).length ≤ 1000000) (hdep : dep ≤ 1000000) (J Jx : Nat → World → Prop) (W : World)
  (hm : ∀ k A B, ListRange.Mv ownT W.heap.size A B → J k A → J k B)
  (hY : ∀ k x V, (belowOf l dep d)[k]? = some x → J k V → YieldAt Fence.wide (n - 1) Tryz.prog lp #[.int .i64 ((x : Nat × Node).1 : Int), vNode x.2] V fun e V' =>
   (e = .returned (.bool true) ∧ J (k + 1) V' ∧ KpT n₀ E V V') ∨ (e = .returned (.bool false) ∧ Jx (k + 1) V'))
  (hF : FamsIn fb n₀ E W mp l) (h0 : J 0 W) :
  CallsIn Fence.wide n Tryz.prog 71 #[vFam mp, vDot d, .int .i64 (dep : Int), .func (.yield lp) #[] #[]] W fun e V => (∃ v, e = .returned v) ∧
   (J (belowOf l dep d).length V ∨ ∃ k, k ≤ (belowOf l dep d).length ∧ Jx k V) := by
 have HM := za0.mk hm
 have HY := za0.mk hY
 have HS := za0.mk hs
 have HU := za0.mk hU
 have HL := za0.mk hl
 have HLEN := za0.mk hlen
 have HDEP := za0.mk hdep
 have HF := za0.mk hF
 have HJ := za0.mk h0
 clear hm hY hs hU hl hlen hdep hF h0
 refine callsIn_of_wp Tryz.func71 rfl trivial ?_ rfl
 simp only [Tryz.ntmps71, List.size_toArray, List.length_cons, List.length_nil, Nat.reduceAdd, Nat.reduceSub, Array.replicate_succ, Array.replicate_zero, List.push_toArray, List.append_toArray, List.nil_append, List.cons_append]
 gi_wp2
 have hgr : Gr W (((W.alloc (boxF mp)).alloc (dotC d)).alloc (TODOc (.slice none 0 0))) := ((Gr.alloc _ _).trans (Gr.alloc _ _)).trans (Gr.alloc _ _)
 have HF1 := za0.mk (HF.out.below hgr.below)
 have HBF : za0 ((((W.alloc (boxF mp)).alloc (dotC d)).alloc (TODOc (.slice none 0 0))).heap[W.heap.size]? = some (boxF mp)) := ⟨za6 (za6 (zaj _ _) _) _⟩
 have HBT : za0 ((((W.alloc (boxF mp)).alloc (dotC d)).alloc (TODOc (.slice none 0 0))).heap[W.heap.size + 1 + 1]? = some (TODOc (.slice none 0 0))) := ⟨by have := zaj ((W.alloc (boxF mp)).alloc (dotC d)) (TODOc (.slice none 0 0)); rwa [World.size_alloc, World.size_alloc] at this⟩
 have HSZ : za0 (W.heap.size + 3 = (((W.alloc (boxF mp)).alloc (dotC d)).alloc (TODOc (.slice none 0 0))).heap.size) := ⟨by rw [World.size_alloc, World.size_alloc, World.size_alloc]⟩
 have HMV : za0 (ListRange.Mv ownT W.heap.size W (((W.alloc (boxF mp)).alloc (dotC d)).alloc (TODOc (.slice none 0 0)))) := ⟨ListRange.Mv.below hgr.below⟩
 clear hgr HF
 generalize ((W.alloc (boxF mp)).alloc (dotC d)).alloc (TODOc (.slice none 0 0)) = W1 at *
 obtain ⟨b0, Hb0⟩ : ∃ b0, za0 (W.heap.size = b0) := ⟨_, ⟨rfl⟩⟩
 obtain ⟨T, HT⟩ : ∃ T, za0 (W.heap.size + 1 + 1 = T) := ⟨_, ⟨rfl⟩⟩
 obtain ⟨Dd, HD⟩ : ∃ Dd, za0 (W.heap.size + 1 = Dd) := ⟨_, ⟨rfl⟩⟩
 obtain ⟨F, HFe⟩ : ∃ F, za0 (W.heap.size = F) := ⟨_, ⟨rfl⟩⟩
 rw [HT.out] at HBT
 rw [HFe.out] at HBF
 rw [show (Value.pointer (some { block := W.heap.size + 1 + 1, off := 0 })) = .pointer (some ⟨T, 0, none⟩) by rw [HT.out], show (Value.pointer (some { block := W.heap.size + 1, off := 0 })) = .pointer (some ⟨Dd, 0, none⟩) by rw [HD.out], show (Value.pointer (some { block := W.heap.size, off := 0 })) = .pointer (some ⟨F, 0, none⟩) by rw [HFe.out]]
 have HJ1 := za0.mk (HM.out 0 W W1 HMV.out HJ.out)
 have hlow : b0 ≤ T ∧ b0 ≤ W1.heap.size := by have h1 := HSZ.out; have h2 := Hb0.out; have h3 := HT.out; omega
 have HLOW := za0.mk hlow
 refine ⟨trivial, CallsIn.mono (callsIn_wide.2 (push_call fb b0 mp F T l d dep [] (.slice none 0 0) W1 HF1.out.fams HBF.out HBT.out (Todo.nil _ _) hlow.2 HL.out (by rw [List.length_nil]; have h1 := stepOf_kids_le l d; have h2 := HL.out; omega))) ?_⟩
 rintro e W2 ⟨⟨r, rfl⟩, u, hT2, hu2, hro, htc⟩
 have HSTART : za0 (BlwF fb n₀ E J mp F T b0 l dep d 0 ((kids l d).map fun y => (dep, y)).reverse u W2) := ⟨by
  have hR : ∀ g, (Value.slice none 0 0).ownBlock = some g → b0 ≤ g ∧ ∃ cur, W1.heap[g]? = some (.cells cur 149 (0, 0)) := fun g hg => by cases hg
  exact ⟨Stk.start HS.out HU.out dep, hT2, by simpa using hu2, ⟨hlow.1, Nat.le_trans hlow.2 htc.size⟩, BlwF.fams HF1.out HBT.out hR htc, push_far HBT.out hR htc HBF.out ⟨by decide, by decide⟩, HM.out 0 W1 W2 (BlwF.mv (Nat.le_of_eq Hb0.out) hlow.1 HBT.out hR htc) HJ1.out⟩⟩
 clear hT2 hu2 hro htc hlow HF1 HBF HBT HMV HJ1
 gi_wp2
 gi_loopg [] (belowOf l dep d).length (fun gk wr => ∃ (k : Nat) (S : List (Nat × Node)) (u : Value), gk + k = (belowOf l dep d).length ∧ za0 (BlwF fb n₀ E J mp F T b0 l dep d k S u wr))
 case atStart => exact ⟨0, _, u, rfl, HSTART⟩
 case round =>
  obtain ⟨k, S, u', hk, HB⟩ := hrel
  clear HSTART
  rcases List.eq_nil_or_concat S with rfl | ⟨S', p, rfl⟩
  ·
   obtain ⟨A', c', rfl⟩ := HB.out.row.slice
   have cT : wr.cell? ⟨T, 0, none⟩ = _ := (za4 HB.out.todoC 0).trans rfl
   have HEND : za0 (J (belowOf l dep d).length wr) := ⟨by have h1 := HB.out.stk.empty; have h2 := HB.out.j; rwa [show k = (belowOf l dep d).length by omega] at h2⟩
   gi_wp2
   go_end0
   exact ⟨⟨_, rfl⟩, .inl HEND.out⟩
  ·
   rw [List.concat_eq_append] at HB
   obtain ⟨g, c, rfl, hg, ⟨cur, hcur⟩, hcells, htd⟩ := HB.out.row.last
   obtain ⟨hx, hst⟩ := HB.out.stk.step HS.out
   obtain ⟨m, Hm⟩ : ∃ m, za0 (S'.length = m) := ⟨_, ⟨rfl⟩⟩
   rw [Hm.out] at hcells htd HB
   have cT : wr.cell? ⟨T, 0, none⟩ = _ := (za4 HB.out.todoC 0).trans rfl
   have hm6 : m ≤ 1000000 := by have h1 := hst.le; have h2 := HLEN.out; have h3 := Hm.out; rw [List.length_append] at h1; omega
   have hwl : wrap64 (((m + 1 : Nat) : Int) - 1) = (m : Int) := by unfold wrap64; omega
   have hgt : decide (((m + 1 : Nat) : Int) > 0) = true := decide_eq_true (by omega)
   have p0 : wr.cell? ⟨g, m * 7, none⟩ = some (.int .i64 p.2.f0.f0) := hcells 0 _ rfl
   have p1 : wr.cell? ⟨g, m * 7 + 1, none⟩ = some (.int .i64 p.2.f0.f1) := hcells 1 _ rfl
   have p2 : wr.cell? ⟨g, m * 7 + 2, none⟩ = some (.int .i64 p.2.f1.f0) := hcells 2 _ rfl
   have p3 : wr.cell? ⟨g, m * 7 + 3, none⟩ = some (.int .i64 p.2.f1.f1) := hcells 3 _ rfl
   have p4 : wr.cell? ⟨g, m * 7 + 4, none⟩ = some (.int .i64 p.2.f2) := hcells 4 _ rfl
   have p5 : wr.cell? ⟨g, m * 7 + 5, none⟩ = some (.int .i32 p.2.f3) := hcells 5 _ rfl
   have p6 : wr.cell? ⟨g, m * 7 + 6, none⟩ = some (.int .i64 (p.1 : Int)) := hcells 6 _ rfl
   have HX := za0.mk hx
   have HST := za0.mk hst
   have HTD := za0.mk htd
   have HCUR := za0.mk hcur
   have HG := za0.mk hg
   clear hx hst htd hcells hcur hg
   have hT1 : (wr.alloc (boxS p)).heap[T]? = some (TODOc (.slice (some ⟨g, 0, none⟩) (m + 1) c)) := za6 HB.out.todoC _
   have cT1 : (wr.alloc (boxS p)).cell? ⟨T, 0, none⟩ = _ := (za4 hT1 0).trans rfl
   have fT1 := za9 hT1 0
   have hmc : m ≤ c := HTD.out.cap.1
   have hmx : c ≤ 9223372036854775807 := HTD.out.cap.2
   obtain ⟨Bx, HBx⟩ : ∃ Bx, za0 (wr.heap.size = Bx) := ⟨_, ⟨rfl⟩⟩
   have hBT : Bx ≠ T := fun e => by have := zae HB.out.todoC; have := HBx.out; omega
   have hX3 : ((wr.alloc (boxS p)).setCell ⟨T, 0, none⟩ (.slice (some ⟨g, 0, none⟩) m c)).heap[Bx]? = some (boxS p) := by rw [Below.heap_setCell _ _ _ Bx hBT, ← HBx.out]; exact zaj _ _
   have q0 : ((wr.alloc (boxS p)).setCell ⟨T, 0, none⟩ (.slice (some ⟨g, 0, none⟩) m c)).cell? ⟨Bx, 0, none⟩ = _ := (za4 hX3 0).trans rfl
   have q1 : ((wr.alloc (boxS p)).setCell ⟨T, 0, none⟩ (.slice (some ⟨g, 0, none⟩) m c)).cell? ⟨Bx, 1, none⟩ = _ := (za4 hX3 1).trans rfl
   have q2 : ((wr.alloc (boxS p)).setCell ⟨T, 0, none⟩ (.slice (some ⟨g, 0, none⟩) m c)).cell? ⟨Bx, 2, none⟩ = _ := (za4 hX3 2).trans rfl
   have q3 : ((wr.alloc (boxS p)).setCell ⟨T, 0, none⟩ (.slice (some ⟨g, 0, none⟩) m c)).cell? ⟨Bx, 3, none⟩ = _ := (za4 hX3 3).trans rfl
   have q4 : ((wr.alloc (boxS p)).setCell ⟨T, 0, none⟩ (.slice (some ⟨g, 0, none⟩) m c)).cell? ⟨Bx, 4, none⟩ = _ := (za4 hX3 4).trans rfl
   have q5 : ((wr.alloc (boxS p)).setCell ⟨T, 0, none⟩ (.slice (some ⟨g, 0, none⟩) m c)).cell? ⟨Bx, 5, none⟩ = _ := (za4 hX3 5).trans rfl
   have q6 : ((wr.alloc (boxS p)).setCell ⟨T, 0, none⟩ (.slice (some ⟨g, 0, none⟩) m c)).cell? ⟨Bx, 6, none⟩ = _ := (za4 hX3 6).trans rfl
   rw [← HBx.out] at q0 q1 q2 q3 q4 q5 q6
   have HX3 := za0.mk hX3
   have HMV3 : za0 (ListRange.Mv ownT b0 wr ((wr.alloc (boxS p)).setCell ⟨T, 0, none⟩ (.slice (some ⟨g, 0, none⟩) m c))) := ⟨by
    refine (ListRange.Mv.below (Gr.alloc wr (boxS p)).below).trans (mv_tch (X := fun i => i = T) ⟨rfl, rfl, rfl, by rw [World.size_setCell]; exact Nat.le_refl _, fun i hi hne => Below.heap_setCell _ _ _ i hne⟩ fun i hi e => ?_)
    subst e
    exact ⟨HB.out.low.1, _, _, hT1, .inr (.inr rfl)⟩⟩
   have HT3 : za0 (((wr.alloc (boxS p)).setCell ⟨T, 0, none⟩ (.slice (some ⟨g, 0, none⟩) m c)).heap[T]? = some (TODOc (.slice (some ⟨g, 0, none⟩) m c))) := ⟨blk_set hT1 0 _⟩
   have HR3 : za0 (Todo ((wr.alloc (boxS p)).setCell ⟨T, 0, none⟩ (.slice (some ⟨g, 0, none⟩) m c)) b0 (.slice (some ⟨g, 0, none⟩) m c) S') := ⟨(HTD.out.below (Gr.alloc wr (boxS p)).below).keep fun q hq => Below.heap_setCell _ _ _ q (fun e => by
    cases hq
    have h1 := za6 HCUR.out (boxS p)
    have e' : g = T := e
    rw [e', hT1] at h1
    exact absurd (Obj.cells.inj (Option.some.inj h1)).2.1 (by decide))⟩
   have HF3 : za0 (((wr.alloc (boxS p)).setCell ⟨T, 0, none⟩ (.slice (some ⟨g, 0, none⟩) m c)).heap[F]? = some (boxF mp)) := ⟨by
    rw [Below.heap_setCell _ _ _ F (fun e => by
     have h1 := za6 HB.out.box (boxS p)
     have e' : F = T := e
     rw [e', hT1] at h1
     exact absurd (Obj.cells.inj (Option.some.inj h1)).2.1 (by decide))]
    exact za6 HB.out.box _⟩
   have HFM3 : za0 (FamsIn fb n₀ E ((wr.alloc (boxS p)).setCell ⟨T, 0, none⟩ (.slice (some ⟨g, 0, none⟩) m c)) mp l) := ⟨(HB.out.fam.below (Gr.alloc wr (boxS p)).below).tch (X := fun i => i = T) ⟨rfl, rfl, rfl, by rw [World.size_setCell]; exact Nat.le_refl _, fun i hi hne => Below.heap_setCell _ _ _ i hne⟩ fun i cc t e hc => by
    subst e
    rw [hT1] at hc; cases hc; exact .inr (.inr rfl)⟩
   have HJ3 := za0.mk (HM.out k _ _ (HMV3.out.mono (Nat.le_of_eq Hb0.out)) HB.out.j)
   have HLO := za0.mk HB.out.low
   obtain ⟨fn, tmps, assign, body, hy, hR⟩ := HY.out k p _ HX.out HJ3.out
   have HRR := za0.mk hR
   have hkl : k < (belowOf l dep d).length := (List.getElem?_eq_some_iff.1 HX.out).1
   have HP1 : za0 (p.1 ≤ 2000000) := ⟨by
    obtain ⟨V, hV, hp⟩ := HB.out.stk.way p (by simp)
    have h1 := hV.le HS.out
    have h2 := HL.out
    have h3 := HDEP.out
    simp only [List.length_cons] at h1
    omega⟩
   clear hT1 hBT hR
   gi_wp2
   refine HRR.out.mono ?_
   clear q0 q1 q2 q3 q4 q5 q6 cT1 fT1 p0 p1 p2 p3 p4 p5 p6 cT
   rintro e V (⟨rfl, hJ4, hK4⟩ | ⟨rfl, hJx4⟩)
   ·
    have hX4 := hK4.own _ _ _ HX3.out (.inr (.inl rfl))
    have hT4 := hK4.own _ _ _ HT3.out (.inr (.inr rfl))
    have hF4 := hK4.own _ _ _ HF3.out (.inl rfl)
    have hR4 : Todo V b0 (.slice (some ⟨g, 0, none⟩) m c) S' := HR3.out.keep fun q hq => by
     obtain ⟨_, cur, hc⟩ := HR3.out.block hq
     exact (hK4.own _ _ _ hc (.inr (.inl rfl))).trans hc.symm
    have hM4 := HFM3.out.kp hK4.kp
    rw [← HBx.out] at hX4
    have q0 : V.cell? ⟨wr.heap.size, 0, none⟩ = _ := (za4 hX4 0).trans rfl
    have q1 : V.cell? ⟨wr.heap.size, 1, none⟩ = _ := (za4 hX4 1).trans rfl
    have q6 : V.cell? ⟨wr.heap.size, 6, none⟩ = _ := (za4 hX4 6).trans rfl
    have hp1 := HP1.out
    have hwd : wrap64 ((p.1 : Int) + 1) = ((p.1 + 1 : Nat) : Int) := by unfold wrap64; omega
    have HT4 := za0.mk hT4
    have HF4 := za0.mk hF4
    have HR4 := za0.mk hR4
    have HM4 := za0.mk hM4
    have HJ4 := za0.mk hJ4
    have HLV : za0 (b0 ≤ V.heap.size) := ⟨Nat.le_trans (Nat.le_trans HLO.out.2 HMV3.out.size) hK4.kp.1⟩
    clear hX4 hT4 hF4 hR4 hM4 hJ4 hK4 hp1
    gi_wp2
    rw [show ((p.1 : Int) + 1) = ((p.1 + 1 : Nat) : Int) by omega]
    refine ⟨trivial, CallsIn.mono (callsIn_wide.2 (push_call fb b0 mp F T l p.2.f0 (p.1 + 1) S' (.slice (some ⟨g, 0, none⟩) m c) V HM4.out.fams HF4.out HT4.out HR4.out HLV.out HL.out (by have h1 := HST.out.le; have h2 := HLEN.out; rw [List.length_append, List.length_reverse, List.length_map] at h1; omega))) ?_⟩
    rintro e V2 ⟨⟨r2, rfl⟩, u2, hT5, hu5, hro, htc⟩
    have HB5 : za0 (BlwF fb n₀ E J mp F T b0 l dep d (k + 1) (S' ++ ((kids l p.2.f0).map fun y => (p.1 + 1, y)).reverse) u2 V2) := ⟨⟨HST.out, hT5, hu5, ⟨HLO.out.1, Nat.le_trans HLV.out htc.size⟩, BlwF.fams HM4.out HT4.out (fun q hq => HR4.out.block hq) htc, push_far HT4.out (fun q hq => HR4.out.block hq) htc HF4.out ⟨by decide, by decide⟩, HM.out (k + 1) V V2 (BlwF.mv (Nat.le_of_eq Hb0.out) HLO.out.1 HT4.out (fun q hq => HR4.out.block hq) htc) HJ4.out⟩⟩
    clear hT5 hu5 hro htc
    gi_wp2
    gi_roundg (gk - 1)
    case measure => omega
    case rel => exact ⟨k + 1, _, u2, by omega, HB5⟩
   ·
    gi_wp2
    refine bodyPost_ret (results_none rfl _ _ _) rfl ?_
    exact ⟨⟨_, rfl⟩, .inr ⟨k + 1, hkl, hJx4⟩⟩
theorem yieldAt_wide {a b : Nat} {P : Program} {l : Nat} {args : Array Value} {W : World} {R : Ending → World → Prop} (h : YieldAt Fence.wide a P l args W R) : YieldAt Fence.wide b P l args W R := by
 obtain ⟨fn, tmps, assign, body, h1, h2, h3⟩ := h
 exact ⟨fn, tmps, assign, body, h1, h2, fun c cs _ => h3 c cs (room_wide _)⟩
set_option maxHeartbeats 1000000 in
set_option maxRecDepth 100000 in
theorem all_moves (fb mp Fb : Nat) (E : Nat → Prop) (l : List Node) (w : World) (hs : Store l) (hl : l.length ≤ 1000000) (hB : w.heap[Fb]? = some (boxF mp)) (hF : Fams fb w mp l)
  (hE : ∀ (i : Nat) (c : Array Value) (t : Nat), E i → w.heap[i]? = some (.cells c t (0, 0)) → t = 22 ∨ t = 25 ∨ t = 3) :
  ListRange.Moves Fence.wide 9 Tryz.prog 70 #[.pointer (some ⟨Fb, 0, none⟩)] (fun x : Nat × Node => #[.int .i64 (x.1 : Int), vNode x.2]) (KpT w.heap.size E) ownT (ordOf l) w := by
 have HFI : za0 (FamsIn fb w.heap.size E w mp l) := ⟨FamsIn.of hF (Nat.le_refl _) fun i c t he hc => by rcases hE i c t he hc with rfl | rfl | rfl <;> decide⟩
 have HS := za0.mk hs
 have HL := za0.mk hl
 have HB := za0.mk hB
 clear hs hl hB hF hE
 intro lp J Jx W hWW hJ hJx hY h0
 have HJ := za0.mk hJ
 have HY := za0.mk hY
 have H0 := za0.mk h0
 have HW := za0.mk hWW
 have hb := zab HB.out hWW
 have cF : W.cell? ⟨Fb, 0, none⟩ = _ := (za4 hb 0).trans rfl
 have HLE : za0 ((belowOf l 0 ⟨0, 0⟩).length ≤ 1000000) := ⟨Nat.le_trans (ord_le HS.out) HL.out⟩
 clear hJ hJx hY h0 hWW hb
 refine callsIn_of_wp Tryz.func70 rfl trivial ?_ rfl
 simp only [Tryz.ntmps70, List.size_toArray, List.length_cons, List.length_nil, Nat.reduceAdd, Nat.reduceSub, Array.replicate_succ, Array.replicate_zero, List.push_toArray, List.append_toArray, List.nil_append, List.cons_append]
 gi_wp2
 refine ⟨trivial, CallsIn.mono (below_in 8 lp fb w.heap.size mp E l ⟨0, 0⟩ 0 [] (by decide) HS.out Path.root HL.out HLE.out (by decide) J Jx W HJ.out (fun k x V hx hj => yieldAt_wide (HY.out k x V hx hj)) (HFI.out.below HW.out) H0.out) ?_⟩
 rintro e V ⟨⟨r, rfl⟩, h⟩
 gi_wp2
 go_end0
 exact ⟨⟨_, rfl⟩, h⟩
set_option maxHeartbeats 1000000 in
set_option maxRecDepth 100000 in
theorem all_fn (A0 : Option Addr) (n c0 : Nat) (l0 : List Node) (w : World) (hn : l0.length = n) (hr0 : Kd.C k42 w A0 n l0) (hc0 : n ≤ c0) (hl : l0.length ≤ 1000000) :
  Calls Tryz.prog 49 #[.slice A0 n c0] w fun e w' => ∃ Fb mp, e = .returned (.func (.func 70) #[] #[.pointer (some ⟨Fb, 0, none⟩)]) ∧ w'.heap[Fb]? = some (boxF mp) ∧ Fams w.heap.size w' mp (if storeOk l0 then l0 else []) ∧ Below w.heap.size w w' := by
 obtain ⟨b, Hb⟩ : ∃ b, za0 (storeOk l0 = b) := ⟨_, ⟨rfl⟩⟩
 have hval := store_Valid.calls A0 c0 l0 b w (by rw [hn]; exact hr0) (by rw [hn]; exact hc0) (by unfold store_Valid.f; rw [if_pos hl, Hb.out])
 rw [hn] at hval
 have HV := za0.mk hval
 have HR := za0.mk hr0
 have HC := za0.mk hc0
 have HL := za0.mk hl
 have Hn := za0.mk hn
 rw [Hb.out]
 clear hval hr0 hc0 hl hn
 go_enter Tryz.func49, Tryz.ntmps49
 go_wp2_with fail
 refine HV.out.mono ?_
 rintro e w1 ⟨rfl, hb⟩
 have HB := za0.mk hb
 clear hb
 cases b with
 | true =>
  have HM := made_call A0 c0 l0 w1 (by rw [Hn.out]; exact Kd.C_below HR.out HB.out) (by rw [Hn.out]; exact HC.out) HL.out (store_of Hb.out)
  rw [Hn.out] at HM
  have HM := za0.mk HM
  go_wp2_with fail
  refine HM.out.mono ?_
  rintro e w2 ⟨mp, rfl, hf, hb2⟩
  have HF := za0.mk (hf.lower HB.out.size)
  have HB2 := za0.mk (za8 HB.out hb2)
  clear hf hb2
  go_wp2
  go_ret
  exact ⟨_, rfl, mp, zaj _ _, HF.out.below (Gr.alloc _ _).below, za2 HB2.out _⟩
 | false =>
  have HM := za0.mk (made_call none 0 [] w1 ⟨rfl, by simp, fun h => absurd h (by simp)⟩ (Nat.le_refl _) (by simp) ⟨fun x hx => (by cases hx), List.Pairwise.nil⟩)
  go_wp2_with fail
  refine HM.out.mono ?_
  rintro e w2 ⟨mp, rfl, hf, hb2⟩
  have HF := za0.mk (hf.lower HB.out.size)
  have HB2 := za0.mk (za8 HB.out hb2)
  clear hf hb2
  go_wp2
  go_ret
  exact ⟨_, rfl, mp, zaj _ _, HF.out.below (Gr.alloc _ _).below, za2 HB2.out _⟩
end
end Go.Proofs.YtefejajofmpjdaaGreat.PWalk
end
section
namespace Go.AnyOrder
section

end
end Go.AnyOrder
end
section
namespace Go.Proofs.YtefejajofmpjdaaGreat.PWalk
open Go.RowKit Go.Proofs.YtefejajofmpjdaaGreatW.PrintWords Go.Proofs.YtefejajofmpjdaaGreatW.PrintLast Go.Proofs.YtefejajofmpjdaaGreatW.PrintMore
set_option linter.unusedVariables false
set_option linter.unusedSimpArgs false
open Go.Shelf
attribute [local go_sem] Oper.semAt_some
section
def dotCells (d : Dot) : List Value := [.int .i64 d.f0, .int .i64 d.f1]
def dcellsOf (l : List Dot) : List Value := l.flatMap dotCells
theorem dcellsOf_length (l : List Dot) : (dcellsOf l).length = l.length * 2 := by
 induction l with
 | nil => rfl
 | cons x l ih => rw [dcellsOf, List.flatMap_cons, List.length_append, ← dcellsOf, ih]; simp [dotCells]; omega
theorem dcellsOf_drop_take (l : List Dot) (j : Nat) (x : Dot) (h : l[j]? = some x) : ((dcellsOf l).drop (j * 2)).take 2 = dotCells x := by
 induction l generalizing j with
 | nil => simp at h
 | cons y l ih =>
  cases j with
  | zero => simp at h; subst h; simp [dcellsOf, dotCells]
  | succ j =>
   simp at h
   rw [show (j + 1) * 2 = 2 + j * 2 from by omega, dcellsOf, List.flatMap_cons, ← dcellsOf, ← List.drop_drop, List.drop_left' (by simp [dotCells])]
   exact ih j h
theorem dreps_cells {R : Dot → List Value → Prop} (l : List Dot) (hR : ∀ x, R x (dotCells x)) : Reps R 2 l (dcellsOf l) :=
 ⟨dcellsOf_length l, fun j p hj => by rw [dcellsOf_drop_take l j p hj]; exact hR p⟩
theorem dcells_of_reps {R : Dot → List Value → Prop} (l : List Dot) (cs : List Value) (h : Reps R 2 l cs) (hR : ∀ x c, R x c → c = dotCells x) : cs = dcellsOf l := by
 induction l generalizing cs with
 | nil => have := h.1; simp at this; subst this; rfl
 | cons x l ih =>
  obtain ⟨h1, h2⟩ := h
  have h0 := hR _ _ (h2 0 x rfl)
  simp only [Nat.zero_mul, List.drop_zero] at h0
  have ht : Reps R 2 l (cs.drop 2) := ⟨by rw [List.length_drop, h1]; simp; omega, fun j p hj => by
   have := h2 (j + 1) p (by simpa using hj)
   rw [List.drop_drop, show 2 + j * 2 = (j + 1) * 2 from by omega]; exact this⟩
  rw [dcellsOf, List.flatMap_cons, ← dcellsOf, ← ih _ ht, ← h0, List.take_append_drop]
abbrev RD (W : World) (base : Nat) (u : Value) (xs : List Dot) : Prop := Kd.R k39 39 W base (fun _ => True) u xs
theorem RD_of_cells {w : World} {base : Nat} {v : Value} {l : List Dot} (h : w.ownsRow base 39 2 v l.length (dcellsOf l)) : RD w base v l :=
 ⟨fun _ _ => trivial, dcellsOf l, h, dreps_cells l fun x => k39_mkM _ _ _ x⟩
theorem dcells_of_R {w : World} {base : Nat} {ok : Nat → Prop} {v : Value} {l : List Dot} (h : Kd.R k39 39 w base ok v l) : w.ownsRow base 39 2 v l.length (dcellsOf l) := by
 obtain ⟨_, inner, ho, hr⟩ := h
 rw [← dcells_of_reps l inner hr fun x c hx => k39_openM hx]
 exact ho
theorem RD.keep {W V : World} {base : Nat} {u : Value} {xs : List Dot} (h : RD W base u xs) (hk : ∀ g, u.ownBlock = some g → V.heap[g]? = W.heap[g]?) : RD V base u xs := RD_of_cells (ownsRow_keep (dcells_of_R h) hk)
theorem RD.block {W : World} {base : Nat} {u : Value} {xs : List Dot} (h : RD W base u xs) {g : Nat} (hg : u.ownBlock = some g) : base ≤ g ∧ ∃ cur, W.heap[g]? = some (.cells cur 39 (0, 0)) := by
 rcases (dcells_of_R h).2 with ⟨rfl, _⟩ | ⟨g', c, cur, rfl, hb, hcur, _⟩
 ·
  cases hg
 ·
  cases hg; exact ⟨hb, cur, hcur⟩
theorem RD.lt {W : World} {base : Nat} {u : Value} {xs : List Dot} (h : RD W base u xs) {g : Nat} (hg : u.ownBlock = some g) : g < W.heap.size := by
 obtain ⟨_, cur, h1⟩ := h.block hg
 exact zae h1
theorem RD.slice {W : World} {base : Nat} {u : Value} {xs : List Dot} (h : RD W base u xs) : ∃ A c, u = .slice A xs.length c := ownsRow_slice (dcells_of_R h)
theorem RN.slice {W : World} {base : Nat} {u : Value} {xs : List Node} (h : RN W base u xs) : ∃ A c, u = .slice A xs.length c := ownsRow_slice (cells_of_R h)
theorem infoD : (Tryz.prog.info? 39).map (fun i => (i.zero, i.size, i.bytes)) = some (some (.agg #[(.int .i64 0), (.int .i64 0)]), 2, 16) := by kernel_rfl
theorem info_get {P : Program} {t : TypeId} {z : Option Value} {s b : Nat} (h : (P.info? t).map (fun i => (i.zero, i.size, i.bytes)) = some (z, s, b)) : ∃ i, P.info? t = some i ∧ i.zero = z ∧ i.size = s ∧ i.bytes = b := by
 rcases hi : P.info? t with _ | i
 ·
  rw [hi] at h; cases h
 ·
  rw [hi] at h
  simp only [Option.map_some, Option.some.injEq, Prod.mk.injEq] at h
  exact ⟨i, rfl, h⟩
theorem run_append_node (base : Nat) (ty : TypeId) (u : Value) (xs : List Node) (x : Node) (g c : Nat) (w : World) (hu : RN w base u xs) (hg : w.heap[g]? = some (boxN x)) (hb : base ≤ w.heap.size) (hl : xs.length + 1 ≤ 1000001) :
  ∃ u' w', (Builtin.append_ #[22, 22] ty #[u, .slice (some ⟨g, 0, none⟩) 1 c]).run Tryz.prog w = .ok u' w' ∧ RN w' base u' (xs ++ [x]) ∧ w.grownBy w' u.ownBlock ∧ (u'.ownBlock = u.ownBlock ∨ u'.ownBlock = some w.heap.size) := by
 obtain ⟨i, hi, hz1, hz2, hz3⟩ := info_get infoN
 obtain ⟨v', w', h1, h2, h3, _, h4⟩ := run_append_own_at (P := Tryz.prog) w base 22 ty 42 i _ 6 48 Tryz.underlying22 hi hz1 hz2 hz3 rfl (by decide) u xs.length (cellsOf xs) (cells_of_R hu) ⟨g, 0, none⟩ 1 c (zar x) rfl
  (fun j v hv => by rw [add_lit, za4 hg, Nat.zero_add, List.getElem?_toArray]; exact hv) (fun v hv => one_cells [x] v (by simpa [cellsOf] using hv)) (by simp only [maxLen]; omega) (by omega) hb
 refine ⟨v', w', h1, R_of_cells ?_ (fun _ _ => trivial), h3, h4⟩
 rw [cellsOf_append, List.length_append, show cellsOf [x] = zar x by simp [cellsOf]]
 exact h2
def nds (L : List (Nat × Node)) : List Node := L.map (fun p => p.2)
abbrev outN (u : Value) : Obj := .cells #[u] 22 (0, 0)
theorem zav {W : World} {O : Nat} {i j : Nat} {v : Value} (h : j ≠ O) : (W.setCell ⟨O, i, none⟩ v).heap[j]? = W.heap[j]? := Below.heap_setCell W _ _ j h
/-- The nodes that come, put into one row. -/
structure CollN (w : World) (b O : Nat) (xs : List Node) (W : World) : Prop where
 out : ∃ u, W.heap[O]? = some (outN u) ∧ RN W b u xs
 below : Below w.heap.size w W
theorem CollN.mv {w : World} {b c O : Nat} {xs : List Node} {W V : World} (h : CollN w b O xs W) (hm : ListRange.Mv ownT c W V) (hc : w.heap.size ≤ c) : CollN w b O xs V := by
 obtain ⟨⟨u, h1, h2⟩, h3⟩ := h
 exact ⟨⟨u, hm.far h1 (by decide), h2.keep fun g hg => by
  obtain ⟨_, cur, hcur⟩ := h2.block hg
  exact (hm.far hcur (by decide)).trans hcur.symm⟩, hm.on h3 hc⟩
theorem CollN.walk {w : World} {b O : Nat} {xs : List Node} {W V : World} (h : CollN w b O xs W) {row : Option Nat} (hg : W.grownBy V row) (hr : ∀ r, row = some r → w.heap.size ≤ r ∧ ∃ o : Obj, W.heap[r]? = some o ∧ o.isCells = false) : CollN w b O xs V := by
 obtain ⟨⟨u, h1, h2⟩, h3⟩ := h
 have hnc : ∀ q cells t, W.heap[q]? = some (Obj.cells cells t (0, 0)) → V.heap[q]? = some (Obj.cells cells t (0, 0)) := fun q cells t hq => (hg.block q (zae hq) (fun e => by obtain ⟨_, o, ho, hc⟩ := hr q e.symm; rw [hq] at ho; cases ho; cases hc)).trans hq
 exact ⟨⟨u, hnc O _ _ h1, h2.keep fun g hgg => by obtain ⟨_, cur, hcur⟩ := h2.block hgg; exact (hnc _ _ _ hcur).trans hcur.symm⟩, h3.grown hg h3.size (fun k e => (hr k e).1)⟩
theorem CollN.more {w : World} {b O : Nat} {xs : List Node} {W V : World} (h : CollN w b O xs W) (hb : Below W.heap.size W V) : CollN w b O xs V := by
 obtain ⟨⟨u, h1, h2⟩, h3⟩ := h
 exact ⟨⟨u, zab h1 hb, h2.below' hb⟩, za8 h3 hb⟩
/-- The end of a round: the box is stored. -/
theorem CollN.put {w : World} {n₀ O : Nat} {xs ys : List Node} {W1 V V2 : World} {u u2 : Value} (hn : w.heap.size ≤ n₀) (hOl : w.heap.size ≤ O) (h1 : W1.heap[O]? = some (outN u)) (h2 : RN W1 n₀ u xs) (h3 : Below w.heap.size w W1)
  (hV : Gr W1 V) (hg : V.grownBy V2 u.ownBlock) (hr : RN V2 n₀ u2 ys) (hat : u2.ownBlock = u.ownBlock ∨ u2.ownBlock = some V.heap.size) (hnW : n₀ ≤ W1.heap.size) :
  KeepsFrom n₀ W1 (V2.setCell ⟨O, 0, none⟩ u2) ∧ KpT n₀ (fun i => i = O) W1 (V2.setCell ⟨O, 0, none⟩ u2) ∧ CollN w n₀ O ys (V2.setCell ⟨O, 0, none⟩ u2) := by
 have hOne : some O ≠ u.ownBlock := fun e => by
  obtain ⟨_, cur, hc⟩ := h2.block e.symm
  rw [h1] at hc
  exact absurd (Obj.cells.inj (Option.some.inj hc)).2.1 (by decide)
 have hO2 : V2.heap[O]? = some (outN u) := (hg.block O (Nat.lt_of_lt_of_le (zae h1) hV.below.size) hOne).trans (hV.blk h1)
 have hsz : W1.heap.size ≤ V2.heap.size := Nat.le_trans hV.below.size hg.size
 have hkeep : ∀ q, q < W1.heap.size → q ≠ O → u.ownBlock ≠ some q → (V2.setCell ⟨O, 0, none⟩ u2).heap[q]? = W1.heap[q]? := fun q hq h4 h5 => by
  rw [zav h4, hg.block q (Nat.lt_of_lt_of_le hq hV.below.size) (fun e => h5 e.symm)]
  exact hV.below.block q hq
 have hnr : ∀ q o, W1.heap[q]? = some o → (∀ c, o ≠ .cells c 42 (0, 0)) → u.ownBlock ≠ some q := fun q o hq ho e => by
  obtain ⟨_, cur, hc⟩ := h2.block e
  rw [hq] at hc
  exact ho _ (Option.some.inj hc)
 have hno : ∀ q o, W1.heap[q]? = some o → (∀ c, o ≠ .cells c 22 (0, 0)) → q ≠ O := fun q o hq ho e => by
  subst e
  rw [h1] at hq
  exact ho _ (Option.some.inj hq).symm
 refine ⟨⟨by rw [World.size_setCell]; exact hsz, fun q o hB hq hoc => (hkeep q (zae hq) (hno q o hq fun c e => by subst e; cases hoc) (hnr q o hq fun c e => by subst e; cases hoc)).trans hq⟩,
  ⟨⟨by rw [World.size_setCell]; exact hsz, fun q hq hE => hkeep q (Nat.lt_of_lt_of_le hq hnW) hE (fun e => by have := (h2.block e).1; omega)⟩, fun q c t hq ht => (hkeep q (zae hq) (hno q _ hq fun c' e => by cases e; revert ht; decide) (hnr q _ hq fun c' e => by cases e; revert ht; decide)).trans hq⟩,
  ⟨u2, blk_set hO2 0 _, hr.keep fun g hgg => zav fun e => ?_⟩, ?_⟩
 ·
  subst e
  obtain ⟨_, cur, hc⟩ := hr.block hgg
  rw [hO2] at hc
  exact absurd (Obj.cells.inj (Option.some.inj hc)).2.1 (by decide)
 ·
  exact below_setCell ((za8 h3 hV.below).grown hg (za8 h3 hV.below).size (fun k e => Nat.le_trans hn (h2.block e).1)) hOl 0 u2
set_option maxHeartbeats 2000000 in
set_option maxRecDepth 100000 in
theorem walk_Order.calls (A0 : Option Addr) (c0 : Nat) (ll : List Node) (r0 : List Node) (r1 : Int) (w : World) (hr0 : Kd.C k42 w A0 ll.length ll) (hc0 : ll.length ≤ c0) (h : walk_Order.f ll = some (r0, r1)) :
  Calls Tryz.prog 23 #[.slice A0 ll.length c0] w fun e w' => ∃ v0_ : Value, e = .returned (.tuple #[v0_, .int .i64 r1]) ∧ Kd.R k42 42 w' w.heap.size (fun _ => True) v0_ r0 ∧ Below w.heap.size w w' := by
 unfold walk_Order.f at h
 by_cases hl : ll.length ≤ 1000000
 rotate_left
 ·
  rw [if_neg hl] at h; cases h
 rw [if_pos hl] at h
 have HR := za0.mk hr0
 have HC := za0.mk hc0
 have HL := za0.mk hl
 have HH := za0.mk (Option.some.inj h)
 clear h hr0 hc0 hl
 obtain ⟨n, Hn⟩ : ∃ n, za0 (ll.length = n) := ⟨_, ⟨rfl⟩⟩
 obtain ⟨b, Hb⟩ : ∃ b, za0 (storeOk ll = b) := ⟨_, ⟨rfl⟩⟩
 have hval := store_Valid.calls A0 c0 ll b w HR.out HC.out (by unfold store_Valid.f; rw [if_pos HL.out, Hb.out])
 rw [Hn.out] at hval ⊢
 have HV := za0.mk hval
 clear hval
 refine calls_of_wp_m Tryz.func23 rfl ?_
 simp only [Tryz.ntmps23, List.size_toArray, List.length_cons, List.length_nil, Nat.reduceAdd, Nat.reduceSub, Array.replicate_succ, Array.replicate_zero, List.push_toArray, List.append_toArray, List.nil_append, List.cons_append]
 go_wp2_with fail
 refine HV.out.mono ?_
 rintro e w1 ⟨rfl, hb⟩
 have HB := za0.mk hb
 clear hb HV
 cases b with
 | false =>
  have hrr : r0 = [] ∧ r1 = 2 := by
   have := HH.out
   rw [if_neg (by rw [Hb.out]; simp)] at this
   exact ⟨(Prod.mk.inj this).1.symm, (Prod.mk.inj this).2.symm⟩
  obtain ⟨rfl, rfl⟩ := hrr
  go_wp2
  exact ⟨_, results_tmp2 rfl _ _ _, _, rfl, Kd.R_nil _ _ _ _ _, HB.out⟩
 | true =>
  have hrr : r0 = nds (ordOf ll) ∧ r1 = 0 := by
   have := HH.out
   rw [if_pos Hb.out] at this
   exact ⟨(Prod.mk.inj this).1.symm, (Prod.mk.inj this).2.symm⟩
  obtain ⟨rfl, rfl⟩ := hrr
  have hO := zaj w1 (outN (.slice none 0 0))
  have HAF := za0.mk (all_fn A0 n c0 ll (w1.alloc (outN (.slice none 0 0))) Hn.out (by rw [← Hn.out]; exact Kd.C_below HR.out (za2 HB.out _)) (by rw [← Hn.out]; exact HC.out) HL.out)
  have HO := za0.mk hO
  clear hO
  go_wp2_with fail
  refine HAF.out.mono ?_
  rintro e w2 ⟨Fb, mp, rfl, hF, hfam, hb⟩
  rw [if_pos Hb.out] at hfam
  have HO2 := za0.mk (zab HO.out hb)
  have HF2 := za0.mk hF
  have HFM := za0.mk hfam
  have HB2 := za0.mk (za8 (za2 HB.out _) hb)
  have HOW : za0 (w.heap.size ≤ w1.heap.size ∧ w1.heap.size < w2.heap.size) := ⟨HB.out.size, zae HO2.out⟩
  clear hF hfam hb HO HAF HB
  obtain ⟨O, HOe⟩ : ∃ O, za0 (w1.heap.size = O) := ⟨_, ⟨rfl⟩⟩
  rw [HOe.out] at HO2 HOW ⊢
  go_wp2_with fail
  have HS : za0 (Store ll) := ⟨store_of Hb.out⟩
  refine wpIn_wide.1 (ListRange.wpIn_move (n := 10) (F := Fence.wide) rfl (by decide) (gf := 70) (lb := #[.pointer (some ⟨Fb, 0, none⟩)]) rfl trivial Tryz.call70
   (encs := fun x : Nat × Node => #[.int .i64 (x.1 : Int), vNode x.2]) (Kp := KpT w2.heap.size (fun i => i = O)) (L := ordOf ll) (w0 := w2) ownT
   (all_moves _ mp Fb (fun i => i = O) ll w2 HS.out HL.out HF2.out HFM.out (fun i c t e hc => by subst e; rw [HO2.out] at hc; cases hc; exact .inl rfl))
   (fun h k => h.trans k) (fun W l o o' hl ho hc _ => KpT.put (Nat.le_refl _) W l o o' hl ho hc) (Below.refl _ _) (fun _ => rfl)
   (fun k W => CollN w w2.heap.size O (nds ((ordOf ll).take k)) W ∧ w2.heap.size ≤ W.heap.size)
   (fun _ _ _ => False)
   (fun k W W' row hs hg hr => ⟨hs.1.walk hg (fun r e => ⟨Nat.le_trans HB2.out.size (hr r e).1, (hr r e).2⟩), Nat.le_trans hs.2 hg.size⟩) (fun _ _ _ _ _ hs _ _ => hs)
   (fun k A B hm hs => ⟨hs.1.mv hm HB2.out.size, Nat.le_trans hs.2 hm.size⟩) (fun _ _ _ _ _ hs => hs)
   ⟨⟨⟨_, HO2.out, Kd.R_nil _ _ _ _ _⟩, HB2.out⟩, Nat.le_refl _⟩
   (fun x a' W => ∃ Nb, w2.heap.size ≤ Nb ∧ W.heap[Nb]? = some (boxN x.2) ∧ a' = { tmps := #[.slice A0 n c0, undef, .slice none 0 0, .int .i64 0, .pointer (some ⟨O, 0, none⟩), undef, .pointer (some ⟨Nb, 0, none⟩), .slice A0 n c0, .bool true, .bool false, .slice A0 n c0, .func (.func 70) #[] #[.pointer (some ⟨Fb, 0, none⟩)], .int .i64 (x.1 : Int), vNode x.2, undef, undef, undef, undef, undef], defers := [] })
   (fun x a' _ W W' row hs hg hr => by
    obtain ⟨Nb, h1, h2, h3⟩ := hs
    exact ⟨Nb, h1, (hg.block Nb (zae h2) (fun e => by obtain ⟨_, o, ho, hc⟩ := hr Nb e.symm; rw [h2] at ho; cases ho; cases hc)).trans h2, h3⟩)
   ?assign ?body ?done ?stop)
  case assign =>
   rintro lp k x W K hx ⟨h1, h2⟩ hK
   gi_wp2
   exact hK _ _ ((KeepsOthers.alloc _ _).from _) (KpT.below (Gr.alloc W _).below h2) ⟨h1.more (Gr.alloc W _).below, Nat.le_trans h2 (by rw [World.size_alloc]; omega)⟩ ⟨W.heap.size, h2, zaj _ _, rfl⟩
  case body =>
   rintro lp k x a' W hx hl2 ⟨rr, hrr⟩ ⟨⟨⟨u, h1, h2⟩, h3⟩, h4⟩ ⟨Nb, hx1, hx2, rfl⟩
   have hlen : (nds ((ordOf ll).take k)).length ≤ 1000000 := by unfold nds; rw [List.length_map, List.length_take]; exact Nat.le_trans (Nat.min_le_right _ _) (Nat.le_trans (ord_le HS.out) HL.out)
   obtain ⟨u2, w3, hrun, hrd, hgr, hat⟩ := run_append_node w2.heap.size 22 u _ x.2 W.heap.size 1 (W.alloc (boxN x.2)) (h2.below' (Gr.alloc W _).below) (zaj _ _) (Nat.le_trans h4 (by rw [World.size_alloc]; omega)) (by omega)
   have hput := CollN.put HB2.out.size (Nat.le_trans HOW.out.1 (Nat.le_refl _)) h1 h2 h3 (Gr.alloc W _) hgr hrd hat h4
   have hO3 : w3.heap[O]? = some (outN u) := (hgr.block O (Nat.lt_of_lt_of_le (zae h1) (Gr.alloc W (boxN x.2)).below.size) (fun e => by
    obtain ⟨_, cur, hc⟩ := h2.block e.symm
    rw [h1] at hc
    exact absurd (Obj.cells.inj (Option.some.inj hc)).2.1 (by decide))).trans (za6 h1 _)
   have HTK : za0 (nds ((ordOf ll).take (k + 1)) = nds ((ordOf ll).take k) ++ [x.2]) := ⟨by
    have hk := (List.getElem?_eq_some_iff.1 hx).1
    unfold nds
    rw [List.take_succ_eq_append_getElem hk, (List.getElem?_eq_some_iff.1 hx).2, List.map_append]; rfl⟩
   obtain ⟨A, c, rfl⟩ := h2.slice
   obtain ⟨A2, c2, rfl⟩ := hrd.slice
   obtain ⟨m, hm⟩ : ∃ m, (nds ((ordOf ll).take k)).length = m := ⟨_, rfl⟩
   obtain ⟨m2, hm2⟩ : ∃ m2, (nds ((ordOf ll).take k) ++ [x.2]).length = m2 := ⟨_, rfl⟩
   rw [hm] at h1 h2 hrun hgr hat hO3
   rw [hm2] at hrun hrd hat hput
   clear hm hm2
   have cO : W.cell? ⟨O, 0, none⟩ = _ := (za4 h1 0).trans rfl
   have n0 : W.cell? ⟨Nb, 0, none⟩ = _ := (za4 hx2 0).trans rfl
   have n1 : W.cell? ⟨Nb, 1, none⟩ = _ := (za4 hx2 1).trans rfl
   have n2 : W.cell? ⟨Nb, 2, none⟩ = _ := (za4 hx2 2).trans rfl
   have n3 : W.cell? ⟨Nb, 3, none⟩ = _ := (za4 hx2 3).trans rfl
   have n4 : W.cell? ⟨Nb, 4, none⟩ = _ := (za4 hx2 4).trans rfl
   have n5 : W.cell? ⟨Nb, 5, none⟩ = _ := (za4 hx2 5).trans rfl
   have cO3 : w3.cell? ⟨O, 0, none⟩ = _ := (za4 hO3 0).trans rfl
   have fO3 := za9 hO3 0
   have HRUN := za0.mk hrun
   have HPUT := za0.mk hput
   have HSZ3 : za0 (w2.heap.size ≤ w3.heap.size) := ⟨Nat.le_trans (Nat.le_trans h4 (Gr.alloc W (boxN x.2)).below.size) hgr.size⟩
   clear h1 h2 h3 h4 hx hx1 hx2 hrun hrd hgr hat hput hO3 hlen
   obtain ⟨x0, x1⟩ := x
   dsimp only at n0 n1 n2 n3 n4 n5 ⊢
   gi_wp2_with (gi_at_builtin; refine wpListIn_append_eq rfl (.tmp 14) (.tmp 16) 22 rfl rfl rfl HRUN.out ?_)
   exact ⟨HPUT.out.1, HPUT.out.2.1, by rw [HTK.out]; exact HPUT.out.2.2, by rw [World.size_setCell]; exact HSZ3.out⟩
  case done =>
   rintro D W hD ⟨h1, h2⟩ hDK
   rw [List.take_length] at h1
   obtain ⟨⟨u, hO, hr⟩, hbl⟩ := h1
   obtain ⟨A, c, rfl⟩ := hr.slice
   obtain ⟨m, hm⟩ : ∃ m, (nds (ordOf ll)).length = m := ⟨_, rfl⟩
   rw [hm] at hO hr
   clear hm
   have cO : W.cell? ⟨O, 0, none⟩ = _ := (za4 hO 0).trans rfl
   have HEND : za0 (RN W w.heap.size (.slice A m c) (nds (ordOf ll)) ∧ Below w.heap.size w W ∧ W.heap[D]? = some (.deferred (some [])) ∧ w.heap.size ≤ D) := ⟨Kd.R_lower hr HB2.out.size, hbl, hDK, Nat.le_trans HB2.out.size hD⟩
   clear hO hr hbl hDK hD h2
   go_wp2
   refine leaves_of_marks2 (n0 := w.heap.size) [mkMark D] _ ⟨[D], rfl, by simp, fun E hE => ?_⟩ (fun W' hm => ⟨_, results_tmp2 rfl _ _ W', _, rfl, R_onlyMarks HEND.out.1 hm, below_onlyMarks HEND.out.2.1 hm⟩)
   simp only [List.mem_singleton] at hE
   subst hE
   exact ⟨HEND.out.2.2.2, HEND.out.2.2.1⟩
  case stop =>
   rintro D c k W _ _ h _
   exact h.elim
theorem RD.below' {W V : World} {base : Nat} {u : Value} {xs : List Dot} (h : RD W base u xs) (hb : Below W.heap.size W V) : RD V base u xs := Kd.R_below h hb
theorem dcellsOf_get (l : List Dot) (j : Nat) (u : Value) (h : (dcellsOf l)[j]? = some u) : ∃ x, l[j / 2]? = some x ∧ (dotCells x)[j % 2]? = some u := by
 have hj : j < l.length * 2 := by rw [← dcellsOf_length]; exact (List.getElem?_eq_some_iff.1 h).1
 have hd : j / 2 < l.length := by omega
 refine ⟨l[j / 2], List.getElem?_eq_getElem hd, ?_⟩
 rw [← dcellsOf_drop_take l (j / 2) _ (List.getElem?_eq_getElem hd), List.getElem?_take, if_pos (by omega), List.getElem?_drop, show j / 2 * 2 + j % 2 = j from by omega]
 exact h
theorem DC_cells {w : World} {A : Option Addr} {n : Nat} {xs : List Dot} (h : Kd.C k39 w A n xs) (hp : 0 < n) : ∃ ad, A = some ad ∧ ∀ j u, (dcellsOf xs)[j]? = some u → w.cell? (ad.add j) = some u := by
 obtain ⟨hl, _, hc⟩ := h
 obtain ⟨ad, e, hc⟩ := hc hp
 refine ⟨ad, e, fun j u hu => ?_⟩
 obtain ⟨x, hx, hu⟩ := dcellsOf_get xs j u hu
 obtain ⟨c, _, hK, hcell⟩ := hc _ _ hx
 have hcx : c = dotCells x := k39_open hK
 subst hcx
 have h2 := hcell _ _ hu
 have e2 : j / 2 * (k39).sz + j % 2 = j := (show j / 2 * 2 + j % 2 = j by omega)
 rw [e2] at h2
 exact h2
theorem done_cells (l : List Dot) : ∀ u ∈ dcellsOf l, u.oneCell' = true := by
 intro u hu
 unfold dcellsOf at hu
 rw [List.mem_flatMap] at hu
 obtain ⟨x, _, hx⟩ := hu
 simp [dotCells] at hx
 rcases hx with rfl | rfl <;> rfl
set_option maxHeartbeats 400000 in
set_option maxRecDepth 100000 in
theorem CloneDot.calls (A0 : Option Addr) (c0 : Nat) (l0 : List Dot) (w : World) (hr0 : Kd.C k39 w A0 l0.length l0) (hl : l0.length ≤ 1000000) :
  Calls Tryz.prog 51 #[.slice A0 l0.length c0] w fun e w' => ∃ v0_ : Value, e = .returned v0_ ∧ Kd.R k39 39 w' w.heap.size (fun _ => True) v0_ l0 ∧ Below w.heap.size w w' := by
 cases A0 with
 | none =>
  have hz : l0 = [] := by
   cases l0 with
   | nil => rfl
   | cons x l => obtain ⟨ad, e, _⟩ := DC_cells hr0 (by simp); cases e
  subst hz
  have hq := fun (W : World) => Lib.run_eql_slice_nil_nil (P := Tryz.prog) W 0 c0 Tryz.underlying25
  clear hr0
  go_enter Tryz.func51, Tryz.ntmps51
  go_wp2
  go_ret
  exact ⟨_, rfl, Kd.R_nil _ _ _ _ _, Below.refl _ _⟩
 | some ad =>
  have hq := fun (W : World) => Lib.run_eql_slice_some_nil (P := Tryz.prog) W ad l0.length c0 Tryz.underlying25
  have HR := za0.mk hr0
  obtain ⟨i0, hi, hz0, hz1, hz2⟩ := info_parts infoD
  have hz := Tryz.zeroValue39
  have hlen := dcellsOf_length l0
  have hcells : za0 (∀ j u, (dcellsOf l0)[j]? = some u → w.cell? (ad.add j) = some u) := ⟨by
   intro j u hu
   by_cases hp : 0 < l0.length
   ·
    obtain ⟨ad', e, h⟩ := DC_cells hr0 hp
    cases e; exact h j u hu
   ·
    have : l0 = [] := by cases l0 <;> simp_all
    subst this; simp [dcellsOf] at hu⟩
  clear hr0
  go_enter Tryz.func51, Tryz.ntmps51
  go_wp2_with (at_builtin; go_loud (refine wpList_append_own _ rfl (.tmp 5) (.tmp 6) 25 rfl w.heap.size 39 i0 _ 2 16 Tryz.underlying25 hi hz0 hz1 hz2 rfl (by decide) _ 0 [] rfl (World.ownsRow_lit w #[] 0 (Nat.le_refl _) (by decide) rfl) ad l0.length c0 (dcellsOf l0) rfl hlen ?c1 (done_cells l0) ?c2 ?c3 ?c4 ?_); (case c1 => exact fun j u hu => zal (za2 (Below.refl _ _) _) (hcells.out j u hu)); (case c2 => unfold maxLen; omega); (case c3 => omega); (case c4 => simp); intro v' w' ho hg hn)
  go_ret
  exact ⟨_, rfl, RD_of_cells (by simpa using ho), (za2 (Below.refl _ _) _).grown hg (by simp) (fun k e => by cases (show some w.heap.size = some k from e); exact Nat.le_refl _)⟩
end
end Go.Proofs.YtefejajofmpjdaaGreat.PWalk
end
