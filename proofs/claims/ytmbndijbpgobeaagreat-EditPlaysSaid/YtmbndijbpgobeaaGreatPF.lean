/-
  The law EditPlays of layer 15 holds for all lists of edits. Part 6 of 12.
-/
import Derived.Test.YtmbndijbpgobeaaGreatPE
import Derived.Shelf.SlSortCmp.NoneTotal
import Derived.Laws.ResultCell
import Derived.Laws.Rows
section
namespace Go.Proofs.YtmbndijbpgobeaaGreat.PWalk
open Go.RowKit Go.Proofs.YtmbndijbpgobeaaGreatW.PrintWords Go.Proofs.YtmbndijbpgobeaaGreatW.PrintLast Go.Proofs.YtmbndijbpgobeaaGreatW.PrintMore
set_option linter.unusedVariables false
set_option linter.unusedSimpArgs false
open Go.Shelf
attribute [local go_sem] Oper.semAt_some
section
def dotCells (d : Dot) : List Value := [.int .i64 d.f0, .int .i64 d.f1]
def dcellsOf (l : List Dot) : List Value := l.flatMap dotCells
theorem dcellsOf_length (l : List Dot) : (dcellsOf l).length = l.length * 2 := by
 induction l with
 | nil => rfl
 | cons x l ih => rw [dcellsOf, List.flatMap_cons, List.length_append, ← dcellsOf, ih]; simp [dotCells]; omega
theorem dcellsOf_drop_take (l : List Dot) (j : Nat) (x : Dot) (h : l[j]? = some x) : ((dcellsOf l).drop (j * 2)).take 2 = dotCells x := by
 induction l generalizing j with
 | nil => simp at h
 | cons y l ih =>
  cases j with
  | zero => simp at h; subst h; simp [dcellsOf, dotCells]
  | succ j =>
   simp at h
   rw [show (j + 1) * 2 = 2 + j * 2 from by omega, dcellsOf, List.flatMap_cons, ← dcellsOf, ← List.drop_drop, List.drop_left' (by simp [dotCells])]
   exact ih j h
theorem dreps_cells {R : Dot → List Value → Prop} (l : List Dot) (hR : ∀ x, R x (dotCells x)) : Reps R 2 l (dcellsOf l) :=
 ⟨dcellsOf_length l, fun j p hj => by rw [dcellsOf_drop_take l j p hj]; exact hR p⟩
theorem dcells_of_reps {R : Dot → List Value → Prop} (l : List Dot) (cs : List Value) (h : Reps R 2 l cs) (hR : ∀ x c, R x c → c = dotCells x) : cs = dcellsOf l := by
 induction l generalizing cs with
 | nil => have := h.1; simp at this; subst this; rfl
 | cons x l ih =>
  obtain ⟨h1, h2⟩ := h
  have h0 := hR _ _ (h2 0 x rfl)
  simp only [Nat.zero_mul, List.drop_zero] at h0
  have ht : Reps R 2 l (cs.drop 2) := ⟨by rw [List.length_drop, h1]; simp; omega, fun j p hj => by
   have := h2 (j + 1) p (by simpa using hj)
   rw [List.drop_drop, show 2 + j * 2 = (j + 1) * 2 from by omega]; exact this⟩
  rw [dcellsOf, List.flatMap_cons, ← dcellsOf, ← ih _ ht, ← h0, List.take_append_drop]
abbrev RD (W : World) (base : Nat) (u : Value) (xs : List Dot) : Prop := Kd.R k25 25 W base (fun _ => True) u xs
theorem RD_of_cells {w : World} {base : Nat} {v : Value} {l : List Dot} (h : w.ownsRow base 25 2 v l.length (dcellsOf l)) : RD w base v l :=
 ⟨fun _ _ => trivial, dcellsOf l, h, dreps_cells l fun x => k25_mkM _ _ _ x⟩
theorem dcells_of_R {w : World} {base : Nat} {ok : Nat → Prop} {v : Value} {l : List Dot} (h : Kd.R k25 25 w base ok v l) : w.ownsRow base 25 2 v l.length (dcellsOf l) := by
 obtain ⟨_, inner, ho, hr⟩ := h
 rw [← dcells_of_reps l inner hr fun x c hx => k25_openM hx]
 exact ho
theorem RD.block {W : World} {base : Nat} {u : Value} {xs : List Dot} (h : RD W base u xs) {g : Nat} (hg : u.ownBlock = some g) : base ≤ g ∧ ∃ cur, W.heap[g]? = some (.cells cur 25 (0, 0)) := by
 rcases (dcells_of_R h).2 with ⟨rfl, _⟩ | ⟨g', c, cur, rfl, hb, hcur, _⟩
 ·
  cases hg
 ·
  cases hg; exact ⟨hb, cur, hcur⟩
theorem RD.slice {W : World} {base : Nat} {u : Value} {xs : List Dot} (h : RD W base u xs) : ∃ A c, u = .slice A xs.length c := ownsRow_slice (dcells_of_R h)
theorem RN.slice {W : World} {base : Nat} {u : Value} {xs : List Node} (h : RN W base u xs) : ∃ A c, u = .slice A xs.length c := ownsRow_slice (cells_of_R h)
theorem infoD : (Tryz.prog.info? 25).map (fun i => (i.zero, i.size, i.bytes)) = some (some (.agg #[(.int .i64 0), (.int .i64 0)]), 2, 16) := by kernel_rfl
theorem info_get {P : Program} {t : TypeId} {z : Option Value} {s b : Nat} (h : (P.info? t).map (fun i => (i.zero, i.size, i.bytes)) = some (z, s, b)) : ∃ i, P.info? t = some i ∧ i.zero = z ∧ i.size = s ∧ i.bytes = b := by
 rcases hi : P.info? t with _ | i
 ·
  rw [hi] at h; cases h
 ·
  rw [hi] at h
  simp only [Option.map_some, Option.some.injEq, Prod.mk.injEq] at h
  exact ⟨i, rfl, h⟩
theorem run_append_node (base : Nat) (ty : TypeId) (u : Value) (xs : List Node) (x : Node) (g c : Nat) (w : World) (hu : RN w base u xs) (hg : w.heap[g]? = some (boxN x)) (hb : base ≤ w.heap.size) (hl : xs.length + 1 ≤ 1000001) :
  ∃ u' w', (Builtin.append_ #[22, 22] ty #[u, .slice (some ⟨g, 0, none⟩) 1 c]).run Tryz.prog w = .ok u' w' ∧ RN w' base u' (xs ++ [x]) ∧ w.grownBy w' u.ownBlock ∧ (u'.ownBlock = u.ownBlock ∨ u'.ownBlock = some w.heap.size) := by
 obtain ⟨i, hi, hz1, hz2, hz3⟩ := info_get infoN
 obtain ⟨v', w', h1, h2, h3, _, h4⟩ := run_append_own_at (P := Tryz.prog) w base 22 ty 53 i _ 6 48 Tryz.underlying22 hi hz1 hz2 hz3 rfl (by decide) u xs.length (cellsOf xs) (cells_of_R hu) ⟨g, 0, none⟩ 1 c (zav x) rfl
  (fun j v hv => by rw [add_lit, za4 hg, Nat.zero_add, List.getElem?_toArray]; exact hv) (fun v hv => one_cells [x] v (by simpa [cellsOf] using hv)) (by simp only [maxLen]; omega) (by omega) hb
 refine ⟨v', w', h1, R_of_cells ?_ (fun _ _ => trivial), h3, h4⟩
 rw [cellsOf_append, List.length_append, show cellsOf [x] = zav x by simp [cellsOf]]
 exact h2
def nds (L : List (Nat × Node)) : List Node := L.map (fun p => p.2)
abbrev outN (u : Value) : Obj := .cells #[u] 22 (0, 0)
theorem far_setCell {W : World} {O : Nat} {i j : Nat} {v : Value} (h : j ≠ O) : (W.setCell ⟨O, i, none⟩ v).heap[j]? = W.heap[j]? := Below.heap_setCell W _ _ j h
/-- The nodes that come, put into one row. -/
structure CollN (w : World) (b O : Nat) (xs : List Node) (W : World) : Prop where
 out : ∃ u, W.heap[O]? = some (outN u) ∧ RN W b u xs
 below : Below w.heap.size w W
theorem CollN.mv {w : World} {b c O : Nat} {xs : List Node} {W V : World} (h : CollN w b O xs W) (hm : ListRange.Mv ownT c W V) (hc : w.heap.size ≤ c) : CollN w b O xs V := by
 obtain ⟨⟨u, h1, h2⟩, h3⟩ := h
 exact ⟨⟨u, hm.far h1 (by decide), h2.keep fun g hg => by
  obtain ⟨_, cur, hcur⟩ := h2.block hg
  exact (hm.far hcur (by decide)).trans hcur.symm⟩, hm.on h3 hc⟩
theorem CollN.walk {w : World} {b O : Nat} {xs : List Node} {W V : World} (h : CollN w b O xs W) {row : Option Nat} (hg : W.grownBy V row) (hr : ∀ r, row = some r → w.heap.size ≤ r ∧ ∃ o : Obj, W.heap[r]? = some o ∧ o.isCells = false) : CollN w b O xs V := by
 obtain ⟨⟨u, h1, h2⟩, h3⟩ := h
 have hnc : ∀ q cells t, W.heap[q]? = some (Obj.cells cells t (0, 0)) → V.heap[q]? = some (Obj.cells cells t (0, 0)) := fun q cells t hq => (hg.block q (zan hq) (fun e => by obtain ⟨_, o, ho, hc⟩ := hr q e.symm; rw [hq] at ho; cases ho; cases hc)).trans hq
 exact ⟨⟨u, hnc O _ _ h1, h2.keep fun g hgg => by obtain ⟨_, cur, hcur⟩ := h2.block hgg; exact (hnc _ _ _ hcur).trans hcur.symm⟩, h3.grown hg h3.size (fun k e => (hr k e).1)⟩
theorem CollN.more {w : World} {b O : Nat} {xs : List Node} {W V : World} (h : CollN w b O xs W) (hb : Below W.heap.size W V) : CollN w b O xs V := by
 obtain ⟨⟨u, h1, h2⟩, h3⟩ := h
 exact ⟨⟨u, za7 h1 hb, h2.below' hb⟩, za5 h3 hb⟩
/-- The end of a round: the box is stored. -/
theorem CollN.put {w : World} {n₀ O : Nat} {xs ys : List Node} {W1 V V2 : World} {u u2 : Value} (hn : w.heap.size ≤ n₀) (hOl : w.heap.size ≤ O) (h1 : W1.heap[O]? = some (outN u)) (h2 : RN W1 n₀ u xs) (h3 : Below w.heap.size w W1)
  (hV : Gr W1 V) (hg : V.grownBy V2 u.ownBlock) (hr : RN V2 n₀ u2 ys) (hat : u2.ownBlock = u.ownBlock ∨ u2.ownBlock = some V.heap.size) (hnW : n₀ ≤ W1.heap.size) :
  KeepsFrom n₀ W1 (V2.setCell ⟨O, 0, none⟩ u2) ∧ KpT n₀ (fun i => i = O) W1 (V2.setCell ⟨O, 0, none⟩ u2) ∧ CollN w n₀ O ys (V2.setCell ⟨O, 0, none⟩ u2) := by
 have hOne : some O ≠ u.ownBlock := fun e => by
  obtain ⟨_, cur, hc⟩ := h2.block e.symm
  rw [h1] at hc
  exact absurd (Obj.cells.inj (Option.some.inj hc)).2.1 (by decide)
 have hO2 : V2.heap[O]? = some (outN u) := (hg.block O (Nat.lt_of_lt_of_le (zan h1) hV.below.size) hOne).trans (hV.blk h1)
 have hsz : W1.heap.size ≤ V2.heap.size := Nat.le_trans hV.below.size hg.size
 have hkeep : ∀ q, q < W1.heap.size → q ≠ O → u.ownBlock ≠ some q → (V2.setCell ⟨O, 0, none⟩ u2).heap[q]? = W1.heap[q]? := fun q hq h4 h5 => by
  rw [far_setCell h4, hg.block q (Nat.lt_of_lt_of_le hq hV.below.size) (fun e => h5 e.symm)]
  exact hV.below.block q hq
 have hnr : ∀ q o, W1.heap[q]? = some o → (∀ c, o ≠ .cells c 53 (0, 0)) → u.ownBlock ≠ some q := fun q o hq ho e => by
  obtain ⟨_, cur, hc⟩ := h2.block e
  rw [hq] at hc
  exact ho _ (Option.some.inj hc)
 have hno : ∀ q o, W1.heap[q]? = some o → (∀ c, o ≠ .cells c 22 (0, 0)) → q ≠ O := fun q o hq ho e => by
  subst e
  rw [h1] at hq
  exact ho _ (Option.some.inj hq).symm
 refine ⟨⟨by rw [World.size_setCell]; exact hsz, fun q o hB hq hoc => (hkeep q (zan hq) (hno q o hq fun c e => by subst e; cases hoc) (hnr q o hq fun c e => by subst e; cases hoc)).trans hq⟩,
  ⟨⟨by rw [World.size_setCell]; exact hsz, fun q hq hE => hkeep q (Nat.lt_of_lt_of_le hq hnW) hE (fun e => by have := (h2.block e).1; omega)⟩, fun q c t hq ht => (hkeep q (zan hq) (hno q _ hq fun c' e => by cases e; revert ht; decide) (hnr q _ hq fun c' e => by cases e; revert ht; decide)).trans hq⟩,
  ⟨u2, blk_set hO2 0 _, hr.keep fun g hgg => far_setCell fun e => ?_⟩, ?_⟩
 ·
  subst e
  obtain ⟨_, cur, hc⟩ := hr.block hgg
  rw [hO2] at hc
  exact absurd (Obj.cells.inj (Option.some.inj hc)).2.1 (by decide)
 ·
  exact below_setCell ((za5 h3 hV.below).grown hg (za5 h3 hV.below).size (fun k e => Nat.le_trans hn (h2.block e).1)) hOl 0 u2
set_option maxHeartbeats 2000000 in
set_option maxRecDepth 100000 in
theorem walk_Order.calls (A0 : Option Addr) (c0 : Nat) (ll : List Node) (r0 : List Node) (r1 : Int) (w : World) (hr0 : Kd.C k53 w A0 ll.length ll) (hc0 : ll.length ≤ c0) (h : walk_Order.f ll = some (r0, r1)) :
  Calls Tryz.prog 87 #[.slice A0 ll.length c0] w fun e w' => ∃ v0_ : Value, e = .returned (.tuple #[v0_, .int .i64 r1]) ∧ Kd.R k53 53 w' w.heap.size (fun _ => True) v0_ r0 ∧ Below w.heap.size w w' := by
 unfold walk_Order.f at h
 by_cases hl : ll.length ≤ 1000000
 rotate_left
 ·
  rw [if_neg hl] at h; cases h
 rw [if_pos hl] at h
 have HR := za0.mk hr0
 have HC := za0.mk hc0
 have HL := za0.mk hl
 have HH := za0.mk (Option.some.inj h)
 clear h hr0 hc0 hl
 obtain ⟨n, Hn⟩ : ∃ n, za0 (ll.length = n) := ⟨_, ⟨rfl⟩⟩
 obtain ⟨b, Hb⟩ : ∃ b, za0 (zak ll = b) := ⟨_, ⟨rfl⟩⟩
 have hval := store_Valid.calls A0 c0 ll b w HR.out HC.out (by unfold store_Valid.f; rw [if_pos HL.out, Hb.out])
 rw [Hn.out] at hval ⊢
 have HV := za0.mk hval
 clear hval
 refine calls_of_wp_m Tryz.func87 rfl ?_
 simp only [Tryz.ntmps87, List.size_toArray, List.length_cons, List.length_nil, Nat.reduceAdd, Nat.reduceSub, Array.replicate_succ, Array.replicate_zero, List.push_toArray, List.append_toArray, List.nil_append, List.cons_append]
 go_wp2_with fail
 refine HV.out.mono ?_
 rintro e w1 ⟨rfl, hb⟩
 have HB := za0.mk hb
 clear hb HV
 cases b with
 | false =>
  have hrr : r0 = [] ∧ r1 = 2 := by
   have := HH.out
   rw [if_neg (by rw [Hb.out]; simp)] at this
   exact ⟨(Prod.mk.inj this).1.symm, (Prod.mk.inj this).2.symm⟩
  obtain ⟨rfl, rfl⟩ := hrr
  go_wp2
  exact ⟨_, results_tmp2 rfl _ _ _, _, rfl, Kd.R_nil _ _ _ _ _, HB.out⟩
 | true =>
  have hrr : r0 = nds (ordOf ll) ∧ r1 = 0 := by
   have := HH.out
   rw [if_pos Hb.out] at this
   exact ⟨(Prod.mk.inj this).1.symm, (Prod.mk.inj this).2.symm⟩
  obtain ⟨rfl, rfl⟩ := hrr
  have hO := zal w1 (outN (.slice none 0 0))
  have HAF := za0.mk (all_fn A0 n c0 ll (w1.alloc (outN (.slice none 0 0))) Hn.out (by rw [← Hn.out]; exact Kd.C_below HR.out (za2 HB.out _)) (by rw [← Hn.out]; exact HC.out) HL.out)
  have HO := za0.mk hO
  clear hO
  go_wp2_with fail
  refine HAF.out.mono ?_
  rintro e w2 ⟨Fb, mp, rfl, hF, hfam, hb⟩
  rw [if_pos Hb.out] at hfam
  have HO2 := za0.mk (za7 HO.out hb)
  have HF2 := za0.mk hF
  have HFM := za0.mk hfam
  have HB2 := za0.mk (za5 (za2 HB.out _) hb)
  have HOW : za0 (w.heap.size ≤ w1.heap.size ∧ w1.heap.size < w2.heap.size) := ⟨HB.out.size, zan HO2.out⟩
  clear hF hfam hb HO HAF HB
  obtain ⟨O, HOe⟩ : ∃ O, za0 (w1.heap.size = O) := ⟨_, ⟨rfl⟩⟩
  rw [HOe.out] at HO2 HOW ⊢
  go_wp2_with fail
  have HS : za0 (Store ll) := ⟨store_of Hb.out⟩
  refine wpIn_wide.1 (ListRange.wpIn_move (n := 10) (F := Fence.wide) rfl (by decide) (gf := 119) (lb := #[.pointer (some ⟨Fb, 0, none⟩)]) rfl trivial Tryz.call119
   (encs := fun x : Nat × Node => #[.int .i64 (x.1 : Int), vNode x.2]) (Kp := KpT w2.heap.size (fun i => i = O)) (L := ordOf ll) (w0 := w2) ownT
   (all_moves _ mp Fb (fun i => i = O) ll w2 HS.out HL.out HF2.out HFM.out (fun i c t e hc => by subst e; rw [HO2.out] at hc; cases hc; exact .inl rfl))
   (fun h k => h.trans k) (fun W l o o' hl ho hc _ => KpT.put (Nat.le_refl _) W l o o' hl ho hc) (Below.refl _ _) (fun _ => rfl)
   (fun k W => CollN w w2.heap.size O (nds ((ordOf ll).take k)) W ∧ w2.heap.size ≤ W.heap.size)
   (fun _ _ _ => False)
   (fun k W W' row hs hg hr => ⟨hs.1.walk hg (fun r e => ⟨Nat.le_trans HB2.out.size (hr r e).1, (hr r e).2⟩), Nat.le_trans hs.2 hg.size⟩) (fun _ _ _ _ _ hs _ _ => hs)
   (fun k A B hm hs => ⟨hs.1.mv hm HB2.out.size, Nat.le_trans hs.2 hm.size⟩) (fun _ _ _ _ _ hs => hs)
   ⟨⟨⟨_, HO2.out, Kd.R_nil _ _ _ _ _⟩, HB2.out⟩, Nat.le_refl _⟩
   (fun x a' W => ∃ Nb, w2.heap.size ≤ Nb ∧ W.heap[Nb]? = some (boxN x.2) ∧ a' = { tmps := #[.slice A0 n c0, undef, .slice none 0 0, .int .i64 0, .pointer (some ⟨O, 0, none⟩), undef, .pointer (some ⟨Nb, 0, none⟩), .slice A0 n c0, .bool true, .bool false, .slice A0 n c0, .func (.func 119) #[] #[.pointer (some ⟨Fb, 0, none⟩)], .int .i64 (x.1 : Int), vNode x.2, undef, undef, undef, undef, undef], defers := [] })
   (fun x a' _ W W' row hs hg hr => by
    obtain ⟨Nb, h1, h2, h3⟩ := hs
    exact ⟨Nb, h1, (hg.block Nb (zan h2) (fun e => by obtain ⟨_, o, ho, hc⟩ := hr Nb e.symm; rw [h2] at ho; cases ho; cases hc)).trans h2, h3⟩)
   ?assign ?body ?done ?stop)
  case assign =>
   rintro lp k x W K hx ⟨h1, h2⟩ hK
   gi_wp2
   exact hK _ _ ((KeepsOthers.alloc _ _).from _) (KpT.below (Gr.alloc W _).below h2) ⟨h1.more (Gr.alloc W _).below, Nat.le_trans h2 (by rw [World.size_alloc]; omega)⟩ ⟨W.heap.size, h2, zal _ _, rfl⟩
  case body =>
   rintro lp k x a' W hx hl2 ⟨rr, hrr⟩ ⟨⟨⟨u, h1, h2⟩, h3⟩, h4⟩ ⟨Nb, hx1, hx2, rfl⟩
   have hlen : (nds ((ordOf ll).take k)).length ≤ 1000000 := by unfold nds; rw [List.length_map, List.length_take]; exact Nat.le_trans (Nat.min_le_right _ _) (Nat.le_trans (ord_le HS.out) HL.out)
   obtain ⟨u2, w3, hrun, hrd, hgr, hat⟩ := run_append_node w2.heap.size 22 u _ x.2 W.heap.size 1 (W.alloc (boxN x.2)) (h2.below' (Gr.alloc W _).below) (zal _ _) (Nat.le_trans h4 (by rw [World.size_alloc]; omega)) (by omega)
   have hput := CollN.put HB2.out.size (Nat.le_trans HOW.out.1 (Nat.le_refl _)) h1 h2 h3 (Gr.alloc W _) hgr hrd hat h4
   have hO3 : w3.heap[O]? = some (outN u) := (hgr.block O (Nat.lt_of_lt_of_le (zan h1) (Gr.alloc W (boxN x.2)).below.size) (fun e => by
    obtain ⟨_, cur, hc⟩ := h2.block e.symm
    rw [h1] at hc
    exact absurd (Obj.cells.inj (Option.some.inj hc)).2.1 (by decide))).trans (zad h1 _)
   have HTK : za0 (nds ((ordOf ll).take (k + 1)) = nds ((ordOf ll).take k) ++ [x.2]) := ⟨by
    have hk := (List.getElem?_eq_some_iff.1 hx).1
    unfold nds
    rw [List.take_succ_eq_append_getElem hk, (List.getElem?_eq_some_iff.1 hx).2, List.map_append]; rfl⟩
   obtain ⟨A, c, rfl⟩ := h2.slice
   obtain ⟨A2, c2, rfl⟩ := hrd.slice
   obtain ⟨m, hm⟩ : ∃ m, (nds ((ordOf ll).take k)).length = m := ⟨_, rfl⟩
   obtain ⟨m2, hm2⟩ : ∃ m2, (nds ((ordOf ll).take k) ++ [x.2]).length = m2 := ⟨_, rfl⟩
   rw [hm] at h1 h2 hrun hgr hat hO3
   rw [hm2] at hrun hrd hat hput
   clear hm hm2
   have cO : W.cell? ⟨O, 0, none⟩ = _ := (za4 h1 0).trans rfl
   have n0 : W.cell? ⟨Nb, 0, none⟩ = _ := (za4 hx2 0).trans rfl
   have n1 : W.cell? ⟨Nb, 1, none⟩ = _ := (za4 hx2 1).trans rfl
   have n2 : W.cell? ⟨Nb, 2, none⟩ = _ := (za4 hx2 2).trans rfl
   have n3 : W.cell? ⟨Nb, 3, none⟩ = _ := (za4 hx2 3).trans rfl
   have n4 : W.cell? ⟨Nb, 4, none⟩ = _ := (za4 hx2 4).trans rfl
   have n5 : W.cell? ⟨Nb, 5, none⟩ = _ := (za4 hx2 5).trans rfl
   have cO3 : w3.cell? ⟨O, 0, none⟩ = _ := (za4 hO3 0).trans rfl
   have fO3 := za6 hO3 0
   have HRUN := za0.mk hrun
   have HPUT := za0.mk hput
   have HSZ3 : za0 (w2.heap.size ≤ w3.heap.size) := ⟨Nat.le_trans (Nat.le_trans h4 (Gr.alloc W (boxN x.2)).below.size) hgr.size⟩
   clear h1 h2 h3 h4 hx hx1 hx2 hrun hrd hgr hat hput hO3 hlen
   obtain ⟨x0, x1⟩ := x
   dsimp only at n0 n1 n2 n3 n4 n5 ⊢
   gi_wp2_with (gi_at_builtin; refine wpListIn_append_eq rfl (.tmp 14) (.tmp 16) 22 rfl rfl rfl HRUN.out ?_)
   exact ⟨HPUT.out.1, HPUT.out.2.1, by rw [HTK.out]; exact HPUT.out.2.2, by rw [World.size_setCell]; exact HSZ3.out⟩
  case done =>
   rintro D W hD ⟨h1, h2⟩ hDK
   rw [List.take_length] at h1
   obtain ⟨⟨u, hO, hr⟩, hbl⟩ := h1
   obtain ⟨A, c, rfl⟩ := hr.slice
   obtain ⟨m, hm⟩ : ∃ m, (nds (ordOf ll)).length = m := ⟨_, rfl⟩
   rw [hm] at hO hr
   clear hm
   have cO : W.cell? ⟨O, 0, none⟩ = _ := (za4 hO 0).trans rfl
   have HEND : za0 (RN W w.heap.size (.slice A m c) (nds (ordOf ll)) ∧ Below w.heap.size w W ∧ W.heap[D]? = some (.deferred (some [])) ∧ w.heap.size ≤ D) := ⟨Kd.R_lower hr HB2.out.size, hbl, hDK, Nat.le_trans HB2.out.size hD⟩
   clear hO hr hbl hDK hD h2
   go_wp2
   refine leaves_of_marks2 (n0 := w.heap.size) [mkMark D] _ ⟨[D], rfl, by simp, fun E hE => ?_⟩ (fun W' hm => ⟨_, results_tmp2 rfl _ _ W', _, rfl, R_onlyMarks HEND.out.1 hm, below_onlyMarks HEND.out.2.1 hm⟩)
   simp only [List.mem_singleton] at hE
   subst hE
   exact ⟨HEND.out.2.2.2, HEND.out.2.2.1⟩
  case stop =>
   rintro D c k W _ _ h _
   exact h.elim
theorem RD.below' {W V : World} {base : Nat} {u : Value} {xs : List Dot} (h : RD W base u xs) (hb : Below W.heap.size W V) : RD V base u xs := Kd.R_below h hb
theorem dcellsOf_get (l : List Dot) (j : Nat) (u : Value) (h : (dcellsOf l)[j]? = some u) : ∃ x, l[j / 2]? = some x ∧ (dotCells x)[j % 2]? = some u := by
 have hj : j < l.length * 2 := by rw [← dcellsOf_length]; exact (List.getElem?_eq_some_iff.1 h).1
 have hd : j / 2 < l.length := by omega
 refine ⟨l[j / 2], List.getElem?_eq_getElem hd, ?_⟩
 rw [← dcellsOf_drop_take l (j / 2) _ (List.getElem?_eq_getElem hd), List.getElem?_take, if_pos (by omega), List.getElem?_drop, show j / 2 * 2 + j % 2 = j from by omega]
 exact h
theorem DC_cells {w : World} {A : Option Addr} {n : Nat} {xs : List Dot} (h : Kd.C k25 w A n xs) (hp : 0 < n) : ∃ ad, A = some ad ∧ ∀ j u, (dcellsOf xs)[j]? = some u → w.cell? (ad.add j) = some u := by
 obtain ⟨hl, _, hc⟩ := h
 obtain ⟨ad, e, hc⟩ := hc hp
 refine ⟨ad, e, fun j u hu => ?_⟩
 obtain ⟨x, hx, hu⟩ := dcellsOf_get xs j u hu
 obtain ⟨c, _, hK, hcell⟩ := hc _ _ hx
 have hcx : c = dotCells x := k25_open hK
 subst hcx
 have h2 := hcell _ _ hu
 have e2 : j / 2 * (k25).sz + j % 2 = j := (show j / 2 * 2 + j % 2 = j by omega)
 rw [e2] at h2
 exact h2
theorem done_cells (l : List Dot) : ∀ u ∈ dcellsOf l, u.oneCell' = true := by
 intro u hu
 unfold dcellsOf at hu
 rw [List.mem_flatMap] at hu
 obtain ⟨x, _, hx⟩ := hu
 simp [dotCells] at hx
 rcases hx with rfl | rfl <;> rfl
set_option maxHeartbeats 400000 in
set_option maxRecDepth 100000 in
theorem CloneDot.calls (A0 : Option Addr) (c0 : Nat) (l0 : List Dot) (w : World) (hr0 : Kd.C k25 w A0 l0.length l0) (hl : l0.length ≤ 1000000) :
  Calls Tryz.prog 73 #[.slice A0 l0.length c0] w fun e w' => ∃ v0_ : Value, e = .returned v0_ ∧ Kd.R k25 25 w' w.heap.size (fun _ => True) v0_ l0 ∧ Below w.heap.size w w' := by
 cases A0 with
 | none =>
  have hz : l0 = [] := by
   cases l0 with
   | nil => rfl
   | cons x l => obtain ⟨ad, e, _⟩ := DC_cells hr0 (by simp); cases e
  subst hz
  have hq := fun (W : World) => Lib.run_eql_slice_nil_nil (P := Tryz.prog) W 0 c0 Tryz.underlying70
  clear hr0
  go_enter Tryz.func73, Tryz.ntmps73
  go_wp2
  go_ret
  exact ⟨_, rfl, Kd.R_nil _ _ _ _ _, Below.refl _ _⟩
 | some ad =>
  have hq := fun (W : World) => Lib.run_eql_slice_some_nil (P := Tryz.prog) W ad l0.length c0 Tryz.underlying70
  have HR := za0.mk hr0
  obtain ⟨i0, hi, hz0, hz1, hz2⟩ := info_parts infoD
  have hz := Tryz.zeroValue25
  have hlen := dcellsOf_length l0
  have hcells : za0 (∀ j u, (dcellsOf l0)[j]? = some u → w.cell? (ad.add j) = some u) := ⟨by
   intro j u hu
   by_cases hp : 0 < l0.length
   ·
    obtain ⟨ad', e, h⟩ := DC_cells hr0 hp
    cases e; exact h j u hu
   ·
    have : l0 = [] := by cases l0 <;> simp_all
    subst this; simp [dcellsOf] at hu⟩
  clear hr0
  go_enter Tryz.func73, Tryz.ntmps73
  go_wp2_with (at_builtin; go_loud (refine wpList_append_own _ rfl (.tmp 5) (.tmp 6) 70 rfl w.heap.size 25 i0 _ 2 16 Tryz.underlying70 hi hz0 hz1 hz2 rfl (by decide) _ 0 [] rfl (World.ownsRow_lit w #[] 0 (Nat.le_refl _) (by decide) rfl) ad l0.length c0 (dcellsOf l0) rfl hlen ?c1 (done_cells l0) ?c2 ?c3 ?c4 ?_); (case c1 => exact fun j u hu => zaf (za2 (Below.refl _ _) _) (hcells.out j u hu)); (case c2 => unfold maxLen; omega); (case c3 => omega); (case c4 => simp); intro v' w' ho hg hn)
  go_ret
  exact ⟨_, rfl, RD_of_cells (by simpa using ho), (za2 (Below.refl _ _) _).grown hg (by simp) (fun k e => by cases (show some w.heap.size = some k from e); exact Nat.le_refl _)⟩
end
section
structure DfSt {α : Type} (q : α → Bool) (l : List α) (i j : Nat) (dk : List α) : Prop where
 len : dk.length = l.length
 lt : i < j
 le : j ≤ l.length
 low : dk.take i = (l.take j).filter q
 high : dk.drop j = l.drop j
theorem DfSt.start {α : Type} {q : α → Bool} {l : List α} {k : Nat} {x : α} (hx : l[k]? = some x) (hq : q x = false) (hn : ∀ j y, j < k → l[j]? = some y → q y = true) : DfSt q l k (k + 1) l := by
 have hk := (List.getElem?_eq_some_iff.1 hx).1
 refine ⟨rfl, Nat.lt_succ_self _, hk, ?_, rfl⟩
 rw [List.take_add_one, hx, List.filter_append]
 have : (l.take k).filter q = l.take k := by
  rw [List.filter_eq_self]
  intro y hy
  obtain ⟨j, hj⟩ := List.getElem?_of_mem hy
  rw [List.getElem?_take] at hj
  split at hj
  ·
   exact hn j y (by assumption) hj
  ·
   cases hj
 rw [this]
 simp [hq]
theorem DfSt.keep {α : Type} {q : α → Bool} {l : List α} {i j : Nat} {dk : List α} {x : α} (h : DfSt q l i j dk) (hx : l[j]? = some x) (hq : q x = true) : DfSt q l (i + 1) (j + 1) (dk.set i x) := by
 have hj := (List.getElem?_eq_some_iff.1 hx).1
 have h1 := h.lt
 have h2 := h.len
 refine ⟨by rw [List.length_set, h.len], by omega, hj, ?_, ?_⟩
 ·
  rw [List.take_add_one, List.take_set_of_le (Nat.le_refl _), List.getElem?_set_self (by omega), h.low, List.take_add_one, hx, List.filter_append]
  simp [hq]
 ·
  rw [List.drop_set_of_lt (by omega)]
  have := congrArg (List.drop 1) h.high
  rw [List.drop_drop, List.drop_drop] at this
  exact this
theorem DfSt.skip {α : Type} {q : α → Bool} {l : List α} {i j : Nat} {dk : List α} {x : α} (h : DfSt q l i j dk) (hx : l[j]? = some x) (hq : q x = false) : DfSt q l i (j + 1) dk := by
 have hj := (List.getElem?_eq_some_iff.1 hx).1
 have h1 := h.lt
 refine ⟨h.len, by omega, hj, ?_, ?_⟩
 ·
  rw [h.low, List.take_add_one, hx, List.filter_append]
  simp [hq]
 ·
  have := congrArg (List.drop 1) h.high
  rw [List.drop_drop, List.drop_drop] at this
  exact this
theorem DfSt.get {α : Type} {q : α → Bool} {l : List α} {i j : Nat} {dk : List α} (h : DfSt q l i j dk) : dk[j]? = l[j]? := by
 have := congrArg (fun z => z[0]?) h.high
 simpa using this
theorem DfSt.done {α : Type} {q : α → Bool} {l : List α} {i : Nat} {dk : List α} (h : DfSt q l i l.length dk) : dk.take i = l.filter q := by
 rw [h.low, List.take_length]
theorem cellsOf_tk (l : List Node) (i : Nat) : cellsOf (l.take i) = (cellsOf l).take (i * 6) := by
 by_cases h : i ≤ l.length
 ·
  have e : cellsOf l = cellsOf (l.take i) ++ cellsOf (l.drop i) := by rw [← cellsOf_append, List.take_append_drop]
  rw [e, List.take_left' (by rw [cellsOf_length, List.length_take]; omega)]
 ·
  rw [List.take_of_length_le (by omega), List.take_of_length_le (by rw [cellsOf_length]; omega)]
theorem cellsOf_put (l : List Node) (i : Nat) (x : Node) (h : i < l.length) : cellsOf (l.set i x) = (cellsOf l).take (i * 6) ++ zav x ++ (cellsOf l).drop (i * 6 + 6) := by
 have e : cellsOf l = cellsOf (l.take i) ++ (zav l[i] ++ cellsOf (l.drop (i + 1))) := by
  have h1 : cellsOf l = cellsOf (l.take i ++ l.drop i) := by rw [List.take_append_drop]
  rw [h1, cellsOf_append, List.drop_eq_getElem_cons h]
  rfl
 have hl : (cellsOf (l.take i)).length = i * 6 := by rw [cellsOf_length, List.length_take]; omega
 have hl2 : (cellsOf (l.take i) ++ zav l[i]).length = i * 6 + 6 := by rw [List.length_append, hl]; rfl
 rw [List.set_eq_take_append_cons_drop, if_pos h, cellsOf_append, e, List.take_left' hl, ← List.append_assoc (cellsOf (l.take i)) (zav l[i]), List.drop_left' hl2, List.append_assoc]
 rfl
theorem R_row {w : World} {base g n cap : Nat} {l : List Node} (h : Kd.R k53 53 w base (fun _ => True) (.slice (some ⟨g, 0, none⟩) n cap) l) :
  n = l.length ∧ ∃ cur, base ≤ g ∧ w.heap[g]? = some (.cells cur 53 (0, 0)) ∧ n ≤ cap ∧ cap ≤ 9223372036854775807 ∧ cur.size = cap * 6 ∧ cur.toList.take (n * 6) = cellsOf l := by
 have hn : n = l.length := (Kd.R_reads' h).1
 subst hn
 obtain ⟨hl, ho⟩ := cells_of_R h
 rcases ho with ⟨h0, _⟩ | ⟨g', cap', cur, he, hbg, hcur, hle, hmx, hsz, htk⟩
 ·
  cases h0
 ·
  cases he
  exact ⟨rfl, cur, hbg, hcur, hle, hmx, hsz, htk⟩
theorem R_of_row {w : World} {base g n cap : Nat} {l : List Node} {cur : Array Value} (hn : n = l.length) (hb : base ≤ g) (hc : w.heap[g]? = some (.cells cur 53 (0, 0))) (hle : n ≤ cap) (hmx : cap ≤ 9223372036854775807) (hsz : cur.size = cap * 6) (ht : cur.toList.take (n * 6) = cellsOf l) :
  Kd.R k53 53 w base (fun _ => True) (.slice (some ⟨g, 0, none⟩) n cap) l := by
 subst hn
 exact R_of_cells ⟨cellsOf_length _, .inr ⟨g, cap, cur, rfl, hb, hc, hle, hmx, hsz, ht⟩⟩ (fun _ _ => trivial)
theorem take_mid {α : Type} (cur xs : List α) (i m n : Nat) (hi : i + m ≤ n) (hx : xs.length = m) (hn : i ≤ cur.length) : (cur.take i ++ xs ++ cur.drop (i + m)).take n = (cur.take n).take i ++ xs ++ (cur.take n).drop (i + m) := by
 subst hx
 rw [List.take_take, show min i n = i by omega, List.take_append, List.take_of_length_le (l := cur.take i ++ xs) (by rw [List.length_append, List.length_take]; omega), List.length_append, List.length_take, show min i cur.length = i by omega, List.drop_take]
theorem run_storeVar_at {P : Program} (w : World) (g o : Nat) (t ty : TypeId) (cur cells : Array Value) (hg : w.heap[g]? = some (.cells cur t (0, 0))) (hi : (P.info? ty).map (·.size) = some cells.size)
  (ho : o + cells.size ≤ cur.size) (h1 : ∀ v ∈ cells.toList, v.oneCell' = true) :
  (storeVar ty ⟨g, o, none⟩ (.agg cells)).run P w = .ok () (w.setRow g (cur.toList.take o ++ cells.toList ++ cur.toList.drop (o + cells.size)).toArray) := by
 have := run_storeCells_at (P := P) g o t cells.toList 0 cur w hg (by rw [Array.length_toList]; exact ho) h1
 cases hq : P.info? ty with
 | none => simp [hq] at hi
 | some i =>
  have hs : cells.size = i.size := by simp [hq] at hi; omega
  simp only [Nat.add_zero, Array.length_toList] at this
  simp [storeVar, sizeOf, typeInfo, hq, Value.cells, hs, this]
/-- A node is stored into a row. -/
theorem row_put {w : World} {base g n cap i : Nat} {l : List Node} (x : Node) (h : Kd.R k53 53 w base (fun _ => True) (.slice (some ⟨g, 0, none⟩) n cap) l) (hi : i < n) :
  ∃ w', (storeVar 53 ⟨g, i * 6, none⟩ (vNode x)).run Tryz.prog w = .ok () w' ∧ Kd.R k53 53 w' base (fun _ => True) (.slice (some ⟨g, 0, none⟩) n cap) (l.set i x) ∧ w.grownBy w' (some g) := by
 obtain ⟨rfl, cur, hb, hc, hle, hmx, hsz, ht⟩ := R_row h
 have hl := cellsOf_length l
 have hcl : cur.toList.length = cap * 6 := by rw [Array.length_toList]; exact hsz
 obtain ⟨i0, hi0, hz0, hz1, hz2⟩ := info_parts infoN
 have hst := run_storeVar_at (P := Tryz.prog) w g (i * 6) 53 53 cur (zav x).toArray hc (by rw [hi0]; show some i0.size = some 6; rw [hz1]) (by show i * 6 + 6 ≤ _; omega) (by intro v hv; simp [zav] at hv; rcases hv with rfl | rfl | rfl | rfl | rfl | rfl <;> rfl)
 rw [show (zav x).toArray.size = 6 from rfl, List.toList_toArray] at hst
 have h6 : (zav x).length = 6 := rfl
 refine ⟨_, hst, ?_, setRow_grown w g _⟩
 refine R_of_row (by rw [List.length_set]) hb (setRow_at hc _) hle hmx ?_ ?_
 rotate_left
 ·
  rw [cellsOf_put _ _ _ hi, ← ht, List.toList_toArray]
  exact take_mid _ _ _ _ _ (by omega) h6 (by omega)
 ·
  rw [List.size_toArray, List.length_append, List.length_append, List.length_take, List.length_drop, h6]
  omega
/-- The end of a row is cleared. -/
theorem row_clear {w : World} {base g n cap i : Nat} {l : List Node} (h : Kd.R k53 53 w base (fun _ => True) (.slice (some ⟨g, 0, none⟩) n cap) l) (hi : i < n) :
  ∃ w', (Builtin.clear_ #[22] 0 #[.slice (some ⟨g, i * 6, none⟩) (n - i) (cap - i)]).run Tryz.prog w = .ok (.tuple #[]) w' ∧ Kd.R k53 53 w' base (fun _ => True) (.slice (some ⟨g, 0, none⟩) i cap) (l.take i) ∧ w.grownBy w' (some g) := by
 obtain ⟨rfl, cur, hb, hc, hle, hmx, hsz, ht⟩ := R_row h
 have hl := cellsOf_length l
 have hcl : cur.toList.length = cap * 6 := by rw [Array.length_toList]; exact hsz
 have hclr := run_clear_row (P := Tryz.prog) Tryz.underlying22 Tryz.zeroValue53 (by decide) 0 g (i * 6) (l.length - i) (cap - i) cur 53 w hc (by omega) (by rw [hsz]; show i * 6 + (l.length - i) * 6 ≤ cap * 6; omega)
 have hz6 : (Value.agg #[(.int .i64 0), (.int .i64 0), (.int .i64 0), (.int .i64 0), (.int .i64 0), (.int .i32 0)]).cells.size = 6 := rfl
 have hzl : (Builtin.zeroCells (Value.agg #[(.int .i64 0), (.int .i64 0), (.int .i64 0), (.int .i64 0), (.int .i64 0), (.int .i32 0)]).cells (l.length - i)).toList.length = (l.length - i) * 6 := by rw [Array.length_toList, size_zeroCells]; rfl
 rw [hz6] at hclr
 generalize (Builtin.zeroCells (Value.agg #[(.int .i64 0), (.int .i64 0), (.int .i64 0), (.int .i64 0), (.int .i64 0), (.int .i32 0)]).cells (l.length - i)).toList = zs at hclr hzl
 refine ⟨_, hclr, ?_, setRow_grown w g _⟩
 refine R_of_row (by rw [List.length_take]; omega) hb (setRow_at hc _) (by omega) hmx ?_ ?_
 ·
  rw [List.size_toArray, List.length_append, List.length_append, List.length_take, List.length_drop, hzl]
  omega
 ·
  rw [List.toList_toArray, List.append_assoc, List.take_left' (by rw [List.length_take]; omega), cellsOf_tk, ← ht, List.take_take, show min (i * 6) (l.length * 6) = i * 6 by omega]
theorem row_six {W : World} {base g n c k : Nat} {xs : List Node} {x : Node} (h : Kd.R k53 53 W base (fun _ => True) (.slice (some ⟨g, 0, none⟩) n c) xs) (hk : xs[k]? = some x) :
  W.cell? ⟨g, k * 6, none⟩ = some (.int .i64 x.f0.f0) ∧ W.cell? ⟨g, k * 6 + 1, none⟩ = some (.int .i64 x.f0.f1) ∧ W.cell? ⟨g, k * 6 + 2, none⟩ = some (.int .i64 x.f1.f0) ∧ W.cell? ⟨g, k * 6 + 3, none⟩ = some (.int .i64 x.f1.f1) ∧ W.cell? ⟨g, k * 6 + 4, none⟩ = some (.int .i64 x.f2) ∧ W.cell? ⟨g, k * 6 + 5, none⟩ = some (.int .i32 x.f3) := by
 obtain ⟨ad, e, h0, h1, h2, h3, h4, h5⟩ := node_at (Kd.R_reads' h).2.2 (Below.refl _ W) k x hk
 cases e
 rw [show (⟨g, 0, none⟩ : Addr).add (k * 6) = ⟨g, k * 6, none⟩ by rw [add_lit, Nat.zero_add]] at h0 h1 h2 h3 h4 h5
 exact ⟨h0, h1, h2, h3, h4, h5⟩
theorem box_cells {V : World} {g : Nat} {c0 c1 c2 c3 c4 c5 : Value} (h : V.heap[g]? = some (.cells #[c0, c1, c2, c3, c4, c5] 53 (0, 0))) :
  V.cell? ⟨g, 0, none⟩ = some c0 ∧ V.cell? ⟨g, 1, none⟩ = some c1 ∧ V.cell? ⟨g, 2, none⟩ = some c2 ∧ V.cell? ⟨g, 3, none⟩ = some c3 ∧ V.cell? ⟨g, 4, none⟩ = some c4 ∧ V.cell? ⟨g, 5, none⟩ = some c5 :=
 ⟨(za4 h 0).trans rfl, (za4 h 1).trans rfl, (za4 h 2).trans rfl, (za4 h 3).trans rfl, (za4 h 4).trans rfl, (za4 h 5).trans rfl⟩
section
variable {ops : Array Oper} {rest : List Oper} {o : Oper} {a : Act} {Q : Exit → Act → World → Prop}
/-- The operation: a node is stored into a row. -/
theorem wpList_putNode (hgd : o.guard = none) (s x : Operand) (ho : o.op = .store 53 s x) (hd : o.dst = none) {w : World} {base g n cap i : Nat} {l : List Node} (y : Node)
  (h : Kd.R k53 53 w base (fun _ => True) (.slice (some ⟨g, 0, none⟩) n cap) l) (hi : i < n) (hs : a.eval s = .pointer (some ⟨g, i * 6, none⟩)) (hx : a.eval x = vNode y)
  (hk : ∀ w', Kd.R k53 53 w' base (fun _ => True) (.slice (some ⟨g, 0, none⟩) n cap) (l.set i y) → w.grownBy w' (some g) → wpList Tryz.prog ops Q rest a w') : wpList Tryz.prog ops Q (o :: rest) a w := by
 obtain ⟨w', h1, h2, h3⟩ := row_put y h hi
 refine wpList_plain hgd fun K hK => ?_
 unfold Oper.wp execOp
 simp only [ho, hs, hx, Instr.storeAt, Instr.sureAddr, Sem.run_bind, Sem.run_pure, Result.andThen_ok, h1]
 show K (a.put o.dst undef) w'
 rw [hd]
 exact hK _ _ (hk w' h2 h3)
end
theorem own_more {w V : World} {base : Nat} {v : Value} {l : List Node} (h : Kd.R k53 53 w base (fun _ => True) v l) (hb : Below w.heap.size w V) : Kd.R k53 53 V base (fun _ => True) v l := Kd.R_below h hb
theorem grown_more {w W V : World} {g : Nat} (h : w.grownBy W (some g)) (hb : Below W.heap.size W V) : w.grownBy V (some g) :=
 ⟨hb.os.trans h.os, hb.tape.trans h.tape, hb.output.trans h.output, Nat.le_trans h.size hb.size, fun k hk hne => (hb.block k (Nat.lt_of_lt_of_le hk h.size)).trans (h.block k hk hne)⟩
theorem grown_trans {w W V : World} {g : Nat} (h : w.grownBy W (some g)) (k : W.grownBy V (some g)) : w.grownBy V (some g) :=
 ⟨k.os.trans h.os, k.tape.trans h.tape, k.output.trans h.output, Nat.le_trans h.size k.size, fun q hq hne => (k.block q (Nat.lt_of_lt_of_le hq h.size) hne).trans (h.block q hq hne)⟩
theorem grown_self (w : World) (g : Nat) : w.grownBy w (some g) := ⟨rfl, rfl, rfl, Nat.le_refl _, fun _ _ _ => rfl⟩
theorem idxFrom_cases (p : Node → Bool) (l : List Node) : (idxFrom p l = -1 ∧ ∀ x ∈ l, p x = false) ∨ ∃ (k : Nat) (x : Node), l[k]? = some x ∧ idxFrom p l = (k : Int) ∧ p x = true ∧ ∀ j y, j < k → l[j]? = some y → p y = false := by
 unfold idxFrom
 cases h : l.findIdx? p with
 | none =>
  rw [List.findIdx?_eq_none_iff] at h
  exact .inl ⟨rfl, h⟩
 | some k =>
  obtain ⟨hk, h1, h2⟩ := List.findIdx?_eq_some_iff_getElem.1 h
  refine .inr ⟨k, l[k], List.getElem?_eq_getElem hk, rfl, h1, fun j y hj hy => ?_⟩
  obtain ⟨hl, rfl⟩ := List.getElem?_eq_some_iff.1 hy
  simpa using h2 j hj
set_option maxHeartbeats 1000000 in
set_option maxRecDepth 100000 in
theorem DeleteFuncNode.calls (p : Node → Bool) (fn : Nat) (base : Nat) (v : Value) (l : List Node) (w : World) (ho : Kd.R k53 53 w base (fun _ => True) v l) (hl : l.length ≤ 1000000)
  (hcall : ∀ args W, (callFunc fn args).run Tryz.prog W = .ok (.enter fn args) W)
  (hp : ∀ x W, Calls Tryz.prog fn #[vNode x] W fun e W' => e = .returned (.bool (p x)) ∧ Below W.heap.size W W') :
  Calls Tryz.prog 88 #[v, .func (.func fn) #[] #[]] w fun e w' => ∃ v0_ : Value, e = .returned v0_ ∧ Kd.R k53 53 w' base (fun _ => True) v0_ (l.filter fun x => !p x) ∧ w.grownBy w' v.ownBlock := by
 obtain ⟨A, c, rfl, hlc⟩ : ∃ A c, v = .slice A l.length c ∧ l.length ≤ c := by
  obtain ⟨A, c, rfl⟩ := RN.slice ho
  exact ⟨A, c, rfl, (Kd.R_reads' ho).2.1⟩
 have HI := za0.mk (IndexFuncNode.calls p fn #[] A c l w (Kd.R_reads' ho).2.2 hlc hcall (fun x W _ => hp x W))
 have HP := za0.mk hp
 have HO := za0.mk ho
 clear ho hp
 obtain ⟨n, Hn⟩ : ∃ n, za0 (l.length = n) := ⟨_, ⟨rfl⟩⟩
 rw [Hn.out] at HI HO hl hlc ⊢
 have hu := Tryz.underlying53
 rcases idxFrom_cases p l with ⟨hi, hall⟩ | ⟨k, x, hk, hi, hx, hlow⟩
 ·
  have HF := za0.mk (show (l.filter fun x => !p x) = l by rw [List.filter_eq_self]; intro y hy; rw [hall y hy]; rfl)
  rw [hi] at HI
  clear hi hall
  go_enter Tryz.func88, Tryz.ntmps88
  go_wp2_with fail
  refine HI.out.mono ?_
  rintro e W ⟨rfl, hb⟩
  go_wp2
  go_ret
  refine ⟨_, rfl, ?_, ⟨hb.os, hb.tape, hb.output, hb.size, fun q hq _ => hb.block q hq⟩⟩
  rw [HF.out]
  exact own_more HO.out hb
 ·
  have hkn : k < n := by rw [← Hn.out]; exact (List.getElem?_eq_some_iff.1 hk).1
  obtain ⟨g, rfl⟩ : ∃ g, A = some ⟨g, 0, none⟩ := by
   obtain ⟨g, cap, h1, _⟩ := Kd.R_form HO.out (by rw [Hn.out]; omega)
   cases h1
   exact ⟨g, rfl⟩
  have HS := za0.mk (DfSt.start (q := fun x => !p x) hk (by rw [hx]; rfl) (fun j y hj hy => by rw [hlow j y hj hy]; rfl))
  have HK := za0.mk hkn
  rw [hi] at HI
  clear hi hx hlow hk
  have hne : ((k : Int) == -1) = false := beq_eq_false_iff_ne.2 (by omega)
  go_enter Tryz.func88, Tryz.ntmps88
  go_wp2_with fail
  refine HI.out.mono ?_
  rintro e W ⟨rfl, hb⟩
  have HB := za0.mk hb
  clear hb
  go_wp2
  go_loopw [5, 6, 7] (fun i j _ wr => ∃ (a b : Nat) (dk : List Node), i = .int .i64 a ∧ j = .int .i64 b ∧ a < b ∧ b ≤ n ∧ za0 (DfSt (fun x => !p x) l a b dk) ∧ za0 (Kd.R k53 53 wr base (fun _ => True) (.slice (some ⟨g, 0, none⟩) n c) dk) ∧ za0 (w.grownBy wr (some g))) (fun _ j _ _ => n - (intOf j).toNat)
  case atStart => exact ⟨k, k + 1, l, rfl, by go_num, by omega, by have := HK.out; omega, HS, ⟨own_more HO.out HB.out⟩, ⟨grown_more (grown_self w g) HB.out⟩⟩
  case round =>
   obtain ⟨a, b, dk, rfl, rfl, hab, hbn, HD, HRw, HG⟩ := hrel
   by_cases hlt : b < n
   ·
    obtain ⟨y, hy⟩ : ∃ y, za0 (l[b]? = some y) := ⟨_, ⟨List.getElem?_eq_getElem (by rw [Hn.out]; exact hlt)⟩⟩
    obtain ⟨h0, h1, h2, h3, h4, h5⟩ := row_six HRw.out (HD.out.get.trans hy.out)
    cases hpy : p y with
    | true =>
     have HP2 := za0.mk hpy
     clear hpy
     go_wp2
     refine (HP.out y _).mono ?_
     rintro e V ⟨rfl, hb⟩
     rw [HP2.out]
     have HBV := za0.mk (za5 (za2 (Below.refl _ wr) _) hb)
     clear hb
     go_wp2
     go_roundw
     case rel => exact ⟨a, b + 1, dk, rfl, by go_num, by omega, by omega, ⟨HD.out.skip hy.out (by rw [HP2.out]; rfl)⟩, ⟨own_more HRw.out HBV.out⟩, ⟨grown_more HG.out HBV.out⟩⟩
     case measure => simp [intOf]; omega
    | false =>
     have HP2 := za0.mk hpy
     clear hpy
     go_wp2
     refine (HP.out y _).mono ?_
     rintro e V ⟨rfl, hb⟩
     rw [HP2.out]
     have HX := za0.mk (za7 (zal wr _) hb)
     have HBV := za0.mk (za5 (za2 (Below.refl _ wr) _) hb)
     clear hb h0 h1 h2 h3 h4 h5
     obtain ⟨h0, h1, h2, h3, h4, h5⟩ := box_cells HX.out
     have HRV := own_more HRw.out HBV.out
     have HRV := za0.mk HRV
     have han : a < n := by omega
     go_wp2_with (refine wpList_putNode rfl (.tmp 33) (.tmp 32) rfl rfl y HRV.out han rfl rfl ?_; intro V2 hR2 hg2)
     go_roundw
     case rel => exact ⟨a + 1, b + 1, dk.set a y, by go_num, by go_num, by omega, by omega, ⟨HD.out.keep hy.out (by rw [HP2.out]; rfl)⟩, ⟨hR2⟩, ⟨grown_trans (grown_more HG.out HBV.out) hg2⟩⟩
     case measure => simp [intOf]; omega
   ·
    obtain rfl : b = n := by omega
    obtain ⟨V, hrun, hR, hg⟩ := row_clear HRw.out hab
    have HRUN := za0.mk hrun
    have HR3 := za0.mk hR
    have HG3 := za0.mk (grown_trans HG.out hg)
    have hda := HD.out
    rw [← Hn.out] at hda
    have HDA := za0.mk hda.done
    have hca : ¬ c = a := by omega
    have hac : a ≤ c := by omega
    have hab2 : a ≤ b := by omega
    clear hrun hR hg hda
    have hrun := HRUN.out
    go_wp2
    go_ret
    exact ⟨_, rfl, by rw [← HDA.out]; exact HR3.out, HG3.out⟩
def zat (l : List Node) : List Node := l.filter fun x => !decide (x.f3 = 0)
def visOf (l : List Node) : List Node := zat (nds (ordOf l))
def index_visible.f (l0 : List Node) : Option (List Node × Int) := if l0.length ≤ 1000000 then some (if zak l0 = true then (visOf l0, 0) else ([], 2)) else none
theorem dead_call (x : Node) (W : World) : Calls Tryz.prog 89 #[vNode x] W fun e W' => e = .returned (.bool (decide (x.f3 = 0))) ∧ Below W.heap.size W W' :=
 node_Dead.calls x.f0.f0 x.f0.f1 x.f1.f0 x.f1.f1 x.f2 x.f3 (decide (x.f3 = 0)) W (by unfold node_Dead.f; by_cases h : x.f3 = 0 <;> simp [h])
theorem dead_enters : ∀ args W, (callFunc 89 args).run Tryz.prog W = .ok (.enter 89 args) W := enters_of Tryz.func89 (by kernel_rfl) rfl
theorem grown_on {w W V : World} {row : Option Nat} (h : W.grownBy V row) (hb : Below w.heap.size w W) (hr : ∀ k, row = some k → w.heap.size ≤ k) : Below w.heap.size w V := hb.grown h hb.size hr
theorem R_base {W : World} {base : Nat} {v : Value} {l : List Node} (h : Kd.R k53 53 W base (fun _ => True) v l) : ∀ k, v.ownBlock = some k → base ≤ k := fun k e => by
 obtain ⟨_, ho⟩ := cells_of_R h
 rcases ho with ⟨rfl, _⟩ | ⟨g, cap, cur, rfl, hb, _⟩
 ·
  cases e
 ·
  cases e; exact hb
theorem nds_length (l : List (Nat × Node)) : (nds l).length = l.length := by unfold nds; rw [List.length_map]
theorem aliveOf_le (l : List Node) : (zat l).length ≤ l.length := List.length_filter_le _ _
set_option maxHeartbeats 400000 in
theorem index_visible.calls (A0 : Option Addr) (c0 : Nat) (ll : List Node) (r0 : List Node) (r1 : Int) (w : World) (hr0 : Kd.C k53 w A0 ll.length ll) (hc0 : ll.length ≤ c0) (h : index_visible.f ll = some (r0, r1)) :
  Calls Tryz.prog 64 #[.slice A0 ll.length c0] w fun e w' => ∃ v0_ : Value, e = .returned (.tuple #[v0_, .int .i64 r1]) ∧ Kd.R k53 53 w' w.heap.size (fun _ => True) v0_ r0 ∧ Below w.heap.size w w' := by
 unfold index_visible.f at h
 by_cases hl : ll.length ≤ 1000000
 rotate_left
 ·
  rw [if_neg hl] at h; cases h
 rw [if_pos hl] at h
 obtain ⟨o, eo, he, ho⟩ : ∃ o eo, walk_Order.f ll = some (o, eo) ∧ (r0 = zat o ∧ r1 = eo ∧ o.length ≤ 1000000) := by
  unfold walk_Order.f
  rw [if_pos hl]
  by_cases hs : zak ll = true
  ·
   rw [if_pos hs] at h ⊢
   cases h
   exact ⟨_, _, rfl, rfl, rfl, by have := ord_le (store_of hs); rw [List.length_map]; omega⟩
  ·
   rw [if_neg hs] at h ⊢
   cases h
   exact ⟨_, _, rfl, rfl, rfl, by simp⟩
 obtain ⟨rfl, rfl, hol⟩ := ho
 have HO := za0.mk (walk_Order.calls A0 c0 ll o r1 w hr0 hc0 he)
 have HL := za0.mk hol
 clear h hr0 hc0 he hol hl
 go_enter Tryz.func64, Tryz.ntmps64
 go_wp2_with fail
 refine HO.out.mono ?_
 rintro e W ⟨v, rfl, hR, hb⟩
 have HR := za0.mk hR
 have HB := za0.mk hb
 clear hR hb HO
 go_wp2_with fail
 refine (DeleteFuncNode.calls (fun x => decide (x.f3 = 0)) 89 w.heap.size v o W HR.out HL.out dead_enters dead_call).mono ?_
 rintro e V ⟨v2, rfl, hR2, hg⟩
 have HR2 := za0.mk hR2
 have HB2 := za0.mk (grown_on hg HB.out (R_base HR.out))
 clear hR2 hg
 go_wp2
 go_ret2
 exact ⟨_, rfl, HR2.out, HB2.out⟩
end
section
theorem op_slice {K : Act → World → Prop} {Q : Exit → Act → World → Prop} {P : Program} {o : Oper} {a : Act} {W : World} (t : TypeId) (s : Operand) (lo hi : Option Operand) (ho : o.op = .slice t s lo hi none) {v x : Value} {vl vh : Option Value} (hs : a.eval s = v) (hl : lo.map a.eval = vl) (hh : hi.map a.eval = vh)
  (hrun : (Instr.sliceAt t v vl vh none).run P W = .ok x W) (h : K (a.put o.dst x) W) : o.wp P a W K Q := by
 unfold Oper.wp
 unfold execOp
 simp only [ho, Option.map_none, hs, hl, hh]
 simp [Result.andThen, Sem.run_bind, hrun, go_sem]
 exact h
theorem run_sliced {P : Program} {t e : TypeId} {A : Option Addr} {m c : Nat} {lo hi : Option Value} {x : Value} {W : World} (ht : P.underlying t = some (.slice e)) (h : (Instr.slice t (.slice A m c) lo hi none).run P W = .ok x W) : (Instr.sliceAt t (.slice A m c) lo hi none).run P W = .ok x W := by
 have he : P.elem t = e := by simp [Program.elem, ht]
 rw [run_sliceAt_slice W t _ _ _ _ (by rw [he]; exact ht)]
 exact h
theorem RN.C {W : World} {base m c : Nat} {A : Option Addr} {xs : List Node} (h : RN W base (.slice A m c) xs) : xs.length = m ∧ m ≤ c ∧ Kd.C k53 W A m xs := by
 obtain ⟨A', c', e, hc, hC⟩ := Kd.R_reads h
 cases e
 exact ⟨rfl, hc, hC⟩
theorem C_to {α : Type} {d : Kd α} {W : World} {A : Option Addr} {m k : Nat} {xs : List α} (h : d.C W A m xs) (hm : xs.length = m) (hk : k ≤ m) : d.C W A k (xs.take k) := by
 subst hm
 have := Kd.C_take h hk
 rwa [show (xs.take k).length = k by rw [List.length_take]; omega] at this
theorem C_from {α : Type} {d : Kd α} {W : World} {A : Option Addr} {m k c : Nat} {xs : List α} (h : d.C W A m xs) (hm : xs.length = m) (hk : k ≤ m) (hc : m ≤ c) : d.C W (if c = k then A else A.map (·.add (k * d.sz))) (m - k) (xs.drop k) := by
 subst hm
 have := Kd.C_drop h hk hc
 rwa [List.length_drop] at this
theorem grown_below {W0 V V' : World} {v : Value} {xs : List Node} (hb : Below W0.heap.size W0 V) (hr : RN V W0.heap.size v xs) (hg : V.grownBy V' v.ownBlock) : Below W0.heap.size W0 V' :=
 hb.grown hg hb.size (fun k e => by
  obtain ⟨_, inner, ho, _⟩ := hr
  rcases ho.2 with ⟨rfl, _⟩ | ⟨g, c, cur, rfl, h1, _⟩
  ·
   cases e
  ·
   cases e; exact h1)
theorem grown_nil {V V' : World} (hg : V.grownBy V' (Value.slice none 0 0).ownBlock) : Below V.heap.size V V' := (Below.refl _ V).grown hg (Nat.le_refl _) (fun k e => by cases e)
end
section
theorem dot_at {w wr : World} {A : Option Addr} {n : Nat} {xs : List Dot} (h : Kd.C k25 w A n xs) (hb : Below w.heap.size w wr) (k : Nat) (x : Dot) (hk : xs[k]? = some x) :
  ∃ ad, A = some ad ∧ wr.cell? (ad.add (k * 2)) = some (.int .i64 x.f0) ∧ wr.cell? ⟨(ad.add (k * 2)).block, (ad.add (k * 2)).off + 1, none⟩ = some (.int .i64 x.f1) := by
 have hl := Kd.C_len h
 have hlt := (List.getElem?_eq_some_iff.1 hk).1
 obtain ⟨ad, e, h0, h1⟩ := at_T25 h (k : Int) (by omega) (by omega)
 have hd : rd_T25 xs (k : Int) = x := by simp [rd_T25, hk]
 rw [hd] at h0 h1
 simp only [Int.toNat_natCast] at h0 h1
 exact ⟨ad, e, zaf hb h0, zaf hb h1⟩
instance : Inhabited Dot := ⟨⟨0, 0⟩⟩
theorem swoD : Go.Sort.SWO (ltOf zas) := by
 have e : ltOf zas = dotLt := by funext x y; exact dotCmp_lt x y
 rw [e]
 exact ⟨dotLt_irrefl, fun _ _ _ h k => dotLt_trans h k, fun a b c h k => by
  unfold dotLt at *
  simp only [decide_eq_false_iff_not] at *
  omega⟩
set_option maxRecDepth 100000 in
theorem sortD_call (base n : Nat) (u : Value) (xs : List Dot) (w : World) (h : RD w base u xs) (hl : xs.length ≤ 1000000) :
  Calls Tryz.prog 74 #[u, .func (.func 47) #[] #[]] w fun e w' => e = .returned (.tuple #[]) ∧ ∃ ys, RD w' base u ys ∧ ys.Perm xs ∧ ys.Pairwise (fun a b => dotLt b a = false) ∧ Tch (fun i => u.ownBlock = some i) w w' := by
 obtain ⟨hcl, ho⟩ := dcells_of_R h
 rcases ho with ⟨h0, h1⟩ | ⟨g, cap, cur, he, hbg, hcur, hle, hmx, hsz, htk⟩
 ·
  subst h0
  have hx : xs = [] := List.length_eq_zero_iff.1 h1
  subst hx
  refine (Go.Proofs.AnyF.slices_SortFunc_none Tryz.sortDot none 0 (.func (.func 47) #[] #[]) w).mono ?_
  rintro e w' ⟨rfl, rfl⟩
  exact ⟨rfl, [], h, List.Perm.refl _, List.Pairwise.nil, ⟨rfl, rfl, rfl, Nat.le_refl _, fun _ _ _ => rfl⟩⟩
 subst he
 obtain ⟨n, hn⟩ : ∃ n, xs.length = n := ⟨_, rfl⟩
 rw [hn] at hle htk h hcl ⊢
 have hds : xs.toArray.size = n := by rw [List.size_toArray]; exact hn
 have hH := row_holds dotCells 2 (fun _ => rfl) (by decide) (d := xs.toArray) hcur hds htk
 have hcon := Go.Proofs.AnyQ.slices_SortFunc Tryz.sortDot 2 Tryz.isAgg25 Tryz.sizeOf25 dotCells (fun _ => rfl) (fun x v hv => done_cells [x] v (by simpa [dcellsOf] using hv)) zas swoD 47 #[] g 0 cap xs.toArray w Tryz.call47 (fun m os dk hs x y => dotCmp_call x y _) hH (zan hcur) (by rw [hds]; omega)
 rw [hds] at hcon
 refine hcon.mono ?_
 rintro e w' ⟨rfl, d', m, os, hp, hs, rfl⟩
 have hd' : d'.size = n := hp.1.trans hds
 obtain ⟨⟨cur', h1, h2, h3⟩, ht⟩ := row_sorted dotCells 2 (fun _ => rfl) (by decide) (d' := d') hcur hsz hd' hle m os
 have hperm : d'.toList.Perm xs := by
  have := hp.2.2
  rw [hd'.symm, Array.extract_size, hd', ← hds, Array.extract_size] at this
  exact this
 have hlen : d'.toList.length = n := by rw [Array.length_toList]; exact hd'
 refine ⟨rfl, d'.toList, RD_of_cells ⟨by rw [dcellsOf_length], .inr ⟨g, cap, cur', by rw [hlen], hbg, h1, by rw [hlen]; exact hle, hmx, h2, by rw [hlen, h3]; rfl⟩⟩, hperm, ?_, ht⟩
 refine List.pairwise_iff_getElem.2 fun i j hi hj hij => ?_
 have := hs i j (Nat.zero_le _) hij (by rw [Array.length_toList, hd'] at hj; omega)
 rw [Array.length_toList] at hi hj
 rw [getElem!_pos d' j hj, getElem!_pos d' i hi] at this
 rw [← dotCmp_lt]
 simpa [ltOf] using this
structure EntsD (W : World) (A : Option Addr) (n : Nat) (ks : List Dot) : Prop where
 kl : ks.length = n
 small : n ≤ 1000000
 row : ∀ i k, ks[i]? = some k → ∃ eb, A = some ⟨eb, 0, none⟩ ∧ W.cell? ⟨eb, i * 2, none⟩ = some (.int .i64 k.f0) ∧ W.cell? ⟨eb, i * 2 + 1, none⟩ = some (.int .i64 k.f1)
theorem EntsD.get {W : World} {A : Option Addr} {n : Nat} {ks : List Dot} (h : EntsD W A n ks) {i : Nat} (hi : i < n) : ∃ k eb, ks[i]? = some k ∧ A = some ⟨eb, 0, none⟩ ∧ W.cell? ⟨eb, i * 2, none⟩ = some (.int .i64 k.f0) ∧ W.cell? ⟨eb, i * 2 + 1, none⟩ = some (.int .i64 k.f1) := by
 have h1 : i < ks.length := by rw [h.kl]; exact hi
 obtain ⟨eb, e, c0, c1⟩ := h.row i _ (List.getElem?_eq_getElem h1)
 exact ⟨_, eb, List.getElem?_eq_getElem h1, e, c0, c1⟩
theorem EntsD.of {W : World} {base : Nat} {A : Option Addr} {n c : Nat} {ks : List Dot} (h : RD W base (.slice A n c) ks) (hl : ks.length ≤ 1000000) : EntsD W A n ks := by
 have h' := dcells_of_R h
 rcases h'.2 with ⟨e, h0⟩ | ⟨g, c', cur, e, hb, hcur, h1, h2, h3, h4⟩
 ·
  cases e
  have : ks = [] := List.length_eq_zero_iff.1 h0
  subst this
  exact ⟨rfl, Nat.zero_le _, fun i k hk => by simp at hk⟩
 ·
  cases e
  refine ⟨rfl, hl, fun i k hk => ⟨g, rfl, ?_⟩⟩
  have hi := (List.getElem?_eq_some_iff.1 hk).1
  have hc : ∀ j u, (dotCells k)[j]? = some u → W.cell? ⟨g, i * 2 + j, none⟩ = some u := fun j u hu => by
   have hj : j < 2 := (List.getElem?_eq_some_iff.1 hu).1
   rw [h'.cellAt (i * 2 + j) (by omega)]
   have h5 := dcellsOf_drop_take ks i k hk
   have h6 : (((dcellsOf ks).drop (i * 2)).take 2)[j]? = some u := by rw [h5]; exact hu
   rw [List.getElem?_take, if_pos hj, List.getElem?_drop] at h6
   exact h6
  exact ⟨hc 0 _ rfl, hc 1 _ rfl⟩
def bdrInv (w : World) (B eb n c : Nat) (d : Dot) (i j h : Nat) (k : Dot) (z12 z13 z14 z15 z16 z17 z18 z19 z20 z21 z22 z23 u24 u25 u26 u27 u28 u29 u30 u31 u32 u33 u34 : Value) (L : Array Bool) (ac : Act) (V : World) : Prop := ∃ (l0 l1 l2 l3 l4 l5 l6 l7 : Bool), L = #[l0, l1, l2, l3, l4, l5, l6, l7] ∧ ac = { tmps := #[.slice (some ⟨eb, 0, none⟩) n c, vDot d, .func (.func 47) #[] #[], undef, .pointer (some ⟨B, 0, none⟩), undef, .int .i64 0, .bool false, .int .i64 n, .int .i64 i, .int .i64 j, .int .i64 h, z12, z13, z14, z15, z16, z17, z18, z19, z20, z21, z22, z23, selv l0 (.func (.func 47) #[] #[]) (u24), selv l1 (.slice (some ⟨eb, 0, none⟩) n c) (u25), selv l2 (.int .i64 h) (u26), selv l3 (.pointer (some ⟨eb, h * 2, none⟩)) (u27), selv l4 (vDot k) (u28), selv l5 (vDot d) (u29), selv l6 (.int .i64 (zas k d)) (u30), selv l7 (.bool (decide (zas k d < 0))) (u31), u32, u33, u34, undef, undef, undef, undef, undef, undef, undef, undef, undef, undef, undef, undef, undef, undef], defers := [] } ∧ za0 (Bs w d V)
def bdtInv (w : World) (B eb n c : Nat) (d : Dot) (q : Nat) (k : Dot) (y11 y12 y13 y14 y15 y16 y17 y18 y19 y20 y21 y22 y23 y24 y25 y26 y27 y28 y29 y30 y31 y32 y33 y34 : Value) (L : Array Bool) (ac : Act) (V : World) : Prop := ∃ (l0 l1 l2 l3 l4 l5 l6 l7 l8 l9 l10 l11 l12 l13 l14 l15 : Bool), L = #[l0, l1, l2, l3, l4, l5, l6, l7, l8, l9, l10, l11, l12, l13, l14, l15] ∧ ac = { tmps := #[.slice (some ⟨eb, 0, none⟩) n c, vDot d, .func (.func 47) #[] #[], undef, .pointer (some ⟨B, 0, none⟩), undef, selv l14 (.int .i64 q) (.int .i64 0), selv l15 (.bool (zas k d == 0)) (.bool false), .int .i64 n, .int .i64 q, .int .i64 q, y11, y12, y13, y14, y15, y16, y17, y18, y19, y20, y21, y22, y23, y24, y25, y26, y27, y28, y29, y30, y31, y32, y33, y34, sel l0 (.int .i64 q), sel l1 (.int .i64 q), sel l2 (.int .i64 n), sel l3 (.bool true), sel l4 (.bool true), sel l5 (.func (.func 47) #[] #[]), sel l6 (.slice (some ⟨eb, 0, none⟩) n c), sel l7 (.int .i64 q), sel l8 (.pointer (some ⟨eb, q * 2, none⟩)), sel l9 (vDot k), sel l10 (vDot d), sel l11 (.int .i64 (zas k d)), sel l12 (.bool (zas k d == 0)), sel l13 (.bool (zas k d == 0))], defers := [] } ∧ za0 (Bs w d V)
def bdfInv (w : World) (A : Option Addr) (B n c : Nat) (d : Dot) (y11 y12 y13 y14 y15 y16 y17 y18 y19 y20 y21 y22 y23 y24 y25 y26 y27 y28 y29 y30 y31 y32 y33 y34 : Value) (L : Array Bool) (ac : Act) (V : World) : Prop := ∃ (l0 l1 l2 l3 l4 l5 l6 l7 l8 l9 l10 l11 l12 l13 l14 l15 : Bool), L = #[l0, l1, l2, l3, l4, l5, l6, l7, l8, l9, l10, l11, l12, l13, l14, l15] ∧ ac = { tmps := #[.slice A n c, vDot d, .func (.func 47) #[] #[], undef, .pointer (some ⟨B, 0, none⟩), undef, selv l14 (.int .i64 n) (.int .i64 0), selv l15 (.bool false) (.bool false), .int .i64 n, .int .i64 n, .int .i64 n, y11, y12, y13, y14, y15, y16, y17, y18, y19, y20, y21, y22, y23, y24, y25, y26, y27, y28, y29, y30, y31, y32, y33, y34, sel l0 (.int .i64 n), sel l1 (.int .i64 n), sel l2 (.int .i64 n), sel l3 (.bool false), sel l4 (.bool false), sel l5 (undef), sel l6 (undef), sel l7 (undef), sel l8 (undef), sel l9 (undef), sel l10 (undef), sel l11 (undef), sel l12 (undef), sel l13 (.bool false)], defers := [] } ∧ za0 (Bs w d V)
set_option maxHeartbeats 2000000 in
set_option maxRecDepth 100000 in
theorem bsearchD_call (ks : List Dot) (A : Option Addr) (n c : Nat) (d : Dot) (w : World) (hs : incB ks = true) (he : EntsD w A n ks) :
  Calls Tryz.prog 46 #[.slice A n c, vDot d, .func (.func 47) #[] #[]] w fun e w' => e = .returned (.tuple #[.int .i64 (posK ks d), .bool (hasK ks d)]) ∧ Below w.heap.size w w' := by
 have HE := za0.mk he
 have HS := za0.mk hs
 have hn := he.small
 have HQN : za0 (posK ks d ≤ n) := ⟨by rw [← he.kl]; exact posK_le ks d⟩
 clear he hs
 obtain ⟨q, HQ⟩ : ∃ q, za0 (posK ks d = q) := ⟨_, ⟨rfl⟩⟩
 obtain ⟨hf, HHF⟩ : ∃ hf, za0 (hasK ks d = hf) := ⟨_, ⟨rfl⟩⟩
 rw [HQ.out, HHF.out]
 rw [HQ.out] at HQN
 have HB0 : za0 (Bs w d (w.alloc (.cells #[.int .i64 d.f0, .int .i64 d.f1] 25 (0, 0)))) := ⟨(Gr.alloc w _).below, zal _ _⟩
 go_enter Tryz.func46, Tryz.ntmps46
 go_wp2
 go_loopw [9, 10] (fun i j wr => ∃ i' j' : Nat, i' ≤ q ∧ q ≤ j' ∧ j' ≤ n ∧ i = .int .i64 i' ∧ j = .int .i64 j' ∧ za0 (Bs w d wr)) (fun i j _ => (intOf j - intOf i).toNat)
 case atStart => exact ⟨0, n, Nat.zero_le _, HQN.out, Nat.le_refl _, rfl, rfl, HB0⟩
 case round =>
  obtain ⟨i, j, hi, hj, hjn, rfl, rfl, HB⟩ := hrel
  clear HB0
  by_cases hlt : i < j
  ·
   have hlb : decide ((i : Int) < (j : Int)) = true := decide_eq_true (by omega)
   obtain ⟨h, Hh⟩ : ∃ h : Nat, h = (i + j) / 2 := ⟨_, rfl⟩
   have hm : ((i : Int) + (j : Int)) / 2 = (h : Int) := by omega
   have HH : za0 (h < n) := ⟨by omega⟩
   have HIJ : za0 (i ≤ h ∧ h < j) := ⟨by omega⟩
   clear Hh
   obtain ⟨k, eb, hk, rfl, c0, c1⟩ := HE.out.get HH.out
   have HC := za0.mk (And.intro c0 c1)
   have HL : za0 (dotLt k d = true ↔ h < q) := ⟨by rw [← HQ.out]; exact posK_iff HS.out d hk⟩
   clear c0 c1 hk
   go_wp2_with fail
   refine AnyOrder.wp_region (by kernel_rfl) (bdrInv w w.heap.size eb n c d i j h k (.slice (some ⟨eb, 0, none⟩) n c) (.int .i64 n) (.int .i64 n) (.int .i64 i) (.int .i64 j) (.bool true) (.int .i64 i) (.int .i64 j) (.int .i64 ((i : Int) + (j : Int))) (.int .u64 ((i : Int) + (j : Int))) (.int .u64 h) (.int .i64 h) u24 u25 u26 u27 u28 u29 u30 u31 u32 u33 u34) ⟨false, false, false, false, false, false, false, false, rfl, rfl, ⟨HB.out.drew⟩⟩ ?step ?last
   case step =>
    rintro L ac V i ⟨l0, l1, l2, l3, l4, l5, l6, l7, rfl, rfl, HF⟩ hi K hK
    rcases AnyOrder.up hi [0, 1, 2, 7, 3, 4, 5, 6] rfl with rfl | rfl | rfl | rfl | rfl | rfl | rfl | rfl
    all_goals
     replace hi := AnyOrder.first hi rfl
     repeat (obtain ⟨ha, hi⟩ := hi; first | obtain rfl := ha | clear ha)
     clear hi
     try simp only [sel_true, selv_true] at hK ⊢
    iterate 4
     ·
      refine AnyOrder.wpOp_go rfl (by rfl) ?_
      go_wp2_with fail
      exact ⟨_, _, _, _, _, _, _, _, rfl, rfl, HF⟩
    ·
     have hh := HH.out
     refine AnyOrder.wpOp_go rfl (by rfl) ?_
     go_wp2_with fail
     exact ⟨_, _, _, _, _, _, _, _, rfl, rfl, HF⟩
    ·
     obtain ⟨q0, q1⟩ := HC.out
     have e0 : V.cell? ⟨eb, h * 2, none⟩ = _ := zaf HF.out.below q0
     have e1 : V.cell? ⟨eb, h * 2 + 1, none⟩ = _ := zaf HF.out.below q1
     clear q0 q1
     refine AnyOrder.wpOp_go rfl (by rfl) ?_
     go_wp2_with fail
     exact ⟨_, _, _, _, _, _, _, _, rfl, rfl, HF⟩
    ·
     have d0 : V.cell? ⟨w.heap.size, 0, none⟩ = _ := (za4 HF.out.box 0).trans rfl
     have d1 : V.cell? ⟨w.heap.size, 1, none⟩ = _ := (za4 HF.out.box 1).trans rfl
     refine AnyOrder.wpOp_go rfl (by rfl) ?_
     go_wp2_with fail
     exact ⟨_, _, _, _, _, _, _, _, rfl, rfl, HF⟩
    ·
     refine AnyOrder.wpOp_go rfl (by rfl) ?_
     go_wp2_with fail
     refine (dotCmp_call k d V).mono ?_
     rintro e V' ⟨rfl, hb⟩
     exact hK _ _ ⟨_, _, _, _, _, _, _, _, rfl, rfl, ⟨HF.out.more hb.below⟩⟩
   case last =>
    rintro L ac V ⟨l0, l1, l2, l3, l4, l5, l6, l7, rfl, rfl, HF⟩ hr
    obtain ⟨rfl, rfl, rfl, rfl, rfl, rfl, rfl, rfl, -⟩ := AnyOrder.alls rfl (by kernel_rfl) hr
    clear hr
    simp only [sel_true, selv_true]
    clear hm
    rw [dotCmp_lt]
    cases hd : dotLt k d with
    | true =>
     have hw1 : wrap64 ((h : Int) + 1) = ((h + 1 : Nat) : Int) := by unfold wrap64; have := HH.out; omega
     have h2 := HL.out.1 hd
     have HIJ2 := HIJ.out
     clear hd
     go_wp2_with fail
     refine ⟨⟨h + 1, j, by omega, hj, hjn, by (first | rfl | (rw [hw1])), rfl, HF⟩, ?_⟩
     simp [intOf]; omega
    | false =>
     have h2 : ¬ h < q := fun e => by have := HL.out.2 e; rw [hd] at this; cases this
     have HIJ2 := HIJ.out
     clear hd
     go_wp2_with fail
     refine ⟨⟨i, h, hi, by omega, by omega, rfl, rfl, HF⟩, ?_⟩
     simp [intOf]; omega
  ·
   obtain rfl : q = i := by omega
   obtain rfl : q = j := by omega
   have hlb : decide ((q : Int) < (q : Int)) = false := decide_eq_false (by omega)
   by_cases hq : q < n
   ·
    have HH := za0.mk hq
    obtain ⟨k, eb, hk, rfl, c0, c1⟩ := HE.out.get HH.out
    have HC := za0.mk (And.intro c0 c1)
    have HR : za0 (hf = (zas k d == 0)) := ⟨by rw [← HHF.out, hasK, HQ.out, hk, dotCmp_eq]; simp⟩
    clear c0 c1 hk
    go_wp2_with fail
    refine AnyOrder.wp_region (by kernel_rfl) (bdtInv w w.heap.size eb n c d q k u11 (.slice (some ⟨eb, 0, none⟩) n c) (.int .i64 n) (.int .i64 n) (.int .i64 q) (.int .i64 q) (.bool false) u18 u19 u20 u21 u22 u23 u24 u25 u26 u27 u28 u29 u30 u31 u32 u33 u34) ⟨false, false, false, false, false, false, false, false, false, false, false, false, false, false, false, false, rfl, rfl, ⟨HB.out.drew⟩⟩ ?step ?last
    case step =>
     rintro L ac V i ⟨l0, l1, l2, l3, l4, l5, l6, l7, l8, l9, l10, l11, l12, l13, l14, l15, rfl, rfl, HF⟩ hi K hK
     rcases AnyOrder.up hi [0, 1, 2, 4, 5, 6, 7, 12, 13, 14, 15, 3, 8, 9, 10, 11] rfl with rfl | rfl | rfl | rfl | rfl | rfl | rfl | rfl | rfl | rfl | rfl | rfl | rfl | rfl | rfl | rfl
     all_goals
      replace hi := AnyOrder.first hi rfl
      repeat (obtain ⟨ha, hi⟩ := hi; first | obtain rfl := ha | clear ha)
      clear hi
      try simp only [sel_true, selv_true] at hK ⊢
     iterate 11
      ·
       refine AnyOrder.wpOp_go rfl (by rfl) ?_
       go_wp2_with fail
       exact ⟨_, _, _, _, _, _, _, _, _, _, _, _, _, _, _, _, rfl, rfl, HF⟩
     ·
      have hh : decide ((q : Int) < (n : Int)) = true := decide_eq_true (by have := HH.out; omega)
      refine AnyOrder.wpOp_go rfl (by rfl) ?_
      go_wp2_with fail
      exact ⟨_, _, _, _, _, _, _, _, _, _, _, _, _, _, _, _, rfl, rfl, HF⟩
     ·
      have hh := HH.out
      refine AnyOrder.wpOp_go rfl (by rfl) ?_
      go_wp2_with fail
      exact ⟨_, _, _, _, _, _, _, _, _, _, _, _, _, _, _, _, rfl, rfl, HF⟩
     ·
      obtain ⟨q0, q1⟩ := HC.out
      have e0 : V.cell? ⟨eb, q * 2, none⟩ = _ := zaf HF.out.below q0
      have e1 : V.cell? ⟨eb, q * 2 + 1, none⟩ = _ := zaf HF.out.below q1
      clear q0 q1
      refine AnyOrder.wpOp_go rfl (by rfl) ?_
      go_wp2_with fail
      exact ⟨_, _, _, _, _, _, _, _, _, _, _, _, _, _, _, _, rfl, rfl, HF⟩
     ·
      have d0 : V.cell? ⟨w.heap.size, 0, none⟩ = _ := (za4 HF.out.box 0).trans rfl
      have d1 : V.cell? ⟨w.heap.size, 1, none⟩ = _ := (za4 HF.out.box 1).trans rfl
      refine AnyOrder.wpOp_go rfl (by rfl) ?_
      go_wp2_with fail
      exact ⟨_, _, _, _, _, _, _, _, _, _, _, _, _, _, _, _, rfl, rfl, HF⟩
     ·
      refine AnyOrder.wpOp_go rfl (by rfl) ?_
      go_wp2_with fail
      refine (dotCmp_call k d V).mono ?_
      rintro e V' ⟨rfl, hb⟩
      exact hK _ _ ⟨_, _, _, _, _, _, _, _, _, _, _, _, _, _, _, _, rfl, rfl, ⟨HF.out.more hb.below⟩⟩
    case last =>
     rintro L ac V ⟨l0, l1, l2, l3, l4, l5, l6, l7, l8, l9, l10, l11, l12, l13, l14, l15, rfl, rfl, HF⟩ hr
     obtain ⟨rfl, rfl, rfl, rfl, rfl, rfl, rfl, rfl, rfl, rfl, rfl, rfl, rfl, rfl, rfl, rfl, -⟩ := AnyOrder.alls rfl (by kernel_rfl) hr
     clear hr
     simp only [sel_true, selv_true]
     go_wp2
     refine bodyPost_ret (results_tmp2 rfl _ _ _) rfl ?_
     exact ⟨by rw [HR.out]; rfl, HF.out.below⟩
   ·
    obtain rfl : n = q := by omega
    have HR : za0 (hf = false) := ⟨by rw [← HHF.out, hasK, HQ.out, List.getElem?_eq_none (by rw [HE.out.kl]; exact Nat.le_refl _)]; rfl⟩
    go_wp2_with fail
    refine AnyOrder.wp_region (by kernel_rfl) (bdfInv w A w.heap.size n c d u11 (.slice A n c) (.int .i64 n) (.int .i64 n) (.int .i64 n) (.int .i64 n) (.bool false) u18 u19 u20 u21 u22 u23 u24 u25 u26 u27 u28 u29 u30 u31 u32 u33 u34) ⟨false, false, false, false, false, false, false, false, false, false, false, false, false, false, false, false, rfl, rfl, ⟨HB.out.drew⟩⟩ ?step ?last
    case step =>
     rintro L ac V i ⟨l0, l1, l2, l3, l4, l5, l6, l7, l8, l9, l10, l11, l12, l13, l14, l15, rfl, rfl, HF⟩ hi K hK
     rcases AnyOrder.up hi [0, 1, 2, 4, 13, 14, 15, 3, 5, 6, 7, 8, 9, 10, 11, 12] rfl with rfl | rfl | rfl | rfl | rfl | rfl | rfl | rfl | rfl | rfl | rfl | rfl | rfl | rfl | rfl | rfl
     all_goals
      replace hi := AnyOrder.first hi rfl
      repeat (obtain ⟨ha, hi⟩ := hi; first | obtain rfl := ha | clear ha)
      clear hi
      try simp only [sel_true, selv_true] at hK ⊢
     iterate 7
      ·
       refine AnyOrder.wpOp_go rfl (by rfl) ?_
       go_wp2_with fail
       exact ⟨_, _, _, _, _, _, _, _, _, _, _, _, _, _, _, _, rfl, rfl, HF⟩
     ·
      have hh : decide ((n : Int) < (n : Int)) = false := decide_eq_false (by omega)
      refine AnyOrder.wpOp_go rfl (by rfl) ?_
      go_wp2_with fail
      exact ⟨_, _, _, _, _, _, _, _, _, _, _, _, _, _, _, _, rfl, rfl, HF⟩
     iterate 8
      ·
       refine AnyOrder.wpOp_out rfl (by rfl) ?_
       exact hK _ _ ⟨_, _, _, _, _, _, _, _, _, _, _, _, _, _, _, _, rfl, rfl, HF⟩
    case last =>
     rintro L ac V ⟨l0, l1, l2, l3, l4, l5, l6, l7, l8, l9, l10, l11, l12, l13, l14, l15, rfl, rfl, HF⟩ hr
     obtain ⟨rfl, rfl, rfl, rfl, rfl, rfl, rfl, rfl, rfl, rfl, rfl, rfl, rfl, rfl, rfl, rfl, -⟩ := AnyOrder.alls rfl (by kernel_rfl) hr
     clear hr
     simp only [sel_true, selv_true]
     go_wp2
     refine bodyPost_ret (results_tmp2 rfl _ _ _) rfl ?_
     exact ⟨by rw [HR.out]; rfl, HF.out.below⟩
theorem adjacent_inc : ∀ {ys : List Dot}, ys.Nodup → ys.Pairwise (fun a b => dotLt b a = false) → incB ys = true
 | [], _, _ => rfl
 | [_], _, _ => rfl
 | a :: b :: r, hn, hp => by
  obtain ⟨h1, h2⟩ := List.nodup_cons.1 hn
  obtain ⟨p1, p2⟩ := List.pairwise_cons.1 hp
  have hlt : dotLt a b = true := by
   cases h : dotLt a b with
   | true => rfl
   | false => exact absurd (by rw [dotLt_total h (p1 b List.mem_cons_self)]; exact List.mem_cons_self) h1
  simp only [incB, Bool.and_eq_true]
  exact ⟨hlt, adjacent_inc h2 p2⟩
theorem incB_ne {ys : List Dot} (h : incB ys = true) {k : Nat} {x y : Dot} (hx : ys[k]? = some x) (hy : ys[k + 1]? = some y) : x ≠ y := by
 intro e
 subst e
 have hn := incB_nodup h
 have h1 := (List.getElem?_eq_some_iff.1 hx).1
 have h2 := (List.getElem?_eq_some_iff.1 hy).1
 have := (List.getElem_inj (h₀ := h1) (h₁ := h2) hn).1 ((List.getElem?_eq_some_iff.1 hx).2.trans (List.getElem?_eq_some_iff.1 hy).2.symm)
 omega
def cpdInv (W0 : World) (ad : Addr) (n c0 k : Nat) (x y : Dot) (z1 z2 z4 z5 z6 z7 z8 z9 z10 z11 z12 z13 z14 z15 z16 z17 z18 z19 z20 z21 z22 z23 z24 z25 z26 z27 z28 z29 z30 z31 z32 z33 z34 z35 z36 z37 z38 z39 z40 z41 z42 z43 z44 z45 z46 z47 z48 z49 z50 z51 z52 z53 z54 z55 z56 z57 z58 z59 z60 : Value) (L : Array Bool) (ac : Act) (V : World) : Prop := ∃ (l0 l1 l2 l3 l4 l5 l6 l7 l8 l9 : Bool), L = #[l0, l1, l2, l3, l4, l5, l6, l7, l8, l9] ∧ ac = { tmps := #[.slice (some ad) n c0, z1, z2, .int .i64 ((k : Int) + 1), z4, z5, z6, z7, z8, z9, z10, z11, z12, z13, z14, z15, selv l0 (.slice (some ad) n c0) (z16), selv l1 (.int .i64 ((k : Int) + 1)) (z17), selv l2 (.pointer (some (ad.add ((k + 1) * 2)))) (z18), selv l3 (vDot y) (z19), selv l4 (.slice (some ad) n c0) (z20), selv l5 (.int .i64 ((k : Int) + 1)) (z21), selv l6 (.int .i64 (k : Int)) (z22), selv l7 (.pointer (some (ad.add (k * 2)))) (z23), selv l8 (vDot x) (z24), selv l9 (.bool false) (z25), z26, z27, z28, z29, z30, z31, z32, z33, z34, z35, z36, z37, z38, z39, z40, z41, z42, z43, z44, z45, z46, z47, z48, z49, z50, z51, z52, z53, z54, z55, z56, z57, z58, z59, z60], defers := [] } ∧ za0 (V = W0)
set_option maxHeartbeats 1000000 in
set_option maxRecDepth 100000 in
theorem compactD_call (A0 : Option Addr) (n c0 : Nat) (ds : List Dot) (w : World) (hn : ds.length = n) (hr0 : Kd.C k25 w A0 n ds) (hl : n ≤ 1000000) (hi : incB ds = true) :
  Calls Tryz.prog 75 #[.slice A0 n c0] w fun e w' => e = .returned (.slice A0 n c0) ∧ Below w.heap.size w w' := by
 have HR := za0.mk hr0
 have Hn := za0.mk hn
 have HI := za0.mk hi
 have HB0 : za0 (Below w.heap.size w w) := ⟨Below.refl _ _⟩
 clear hr0 hn hi
 go_enter Tryz.func75, Tryz.ntmps75
 by_cases h2 : n < 2
 ·
  have h2b : decide ((n : Int) < 2) = true := decide_eq_true (by omega)
  go_wp2
  go_ret
  exact ⟨rfl, Below.refl _ _⟩
 ·
  have h2b : decide ((n : Int) < 2) = false := decide_eq_false (by omega)
  go_wp2
  go_loopw [3] (fun i wr => ∃ k : Nat, k + 1 ≤ n ∧ i = .int .i64 ((k : Int) + 1) ∧ za0 (Below w.heap.size w wr)) (fun i _ => n - (intOf i).toNat)
  case atStart => exact ⟨0, by omega, rfl, HB0⟩
  case round =>
   obtain ⟨k, hk, rfl, HB⟩ := hrel
   by_cases hlt : k + 1 < n
   ·
    have hltb : decide ((k : Int) + 1 < (n : Int)) = true := decide_eq_true (by omega)
    obtain ⟨x, hx⟩ : ∃ x, za0 (ds[k]? = some x) := ⟨_, ⟨List.getElem?_eq_getElem (by have := Hn.out; omega)⟩⟩
    obtain ⟨y, hy⟩ : ∃ y, za0 (ds[k + 1]? = some y) := ⟨_, ⟨List.getElem?_eq_getElem (by have := Hn.out; omega)⟩⟩
    obtain ⟨ad, e, g0, g1⟩ := dot_at HR.out HB.out k x hx.out
    subst e
    obtain ⟨ad', e, y0, y1⟩ := dot_at HR.out HB.out (k + 1) y hy.out
    cases e
    have G0 : za0 (wr.drew.cell? (ad.add (k * 2)) = some (.int .i64 x.f0)) := ⟨g0⟩
    have G1 : za0 (wr.drew.cell? ⟨(ad.add (k * 2)).block, (ad.add (k * 2)).off + 1, none⟩ = some (.int .i64 x.f1)) := ⟨g1⟩
    have Y0 : za0 (wr.drew.cell? (ad.add ((k + 1) * 2)) = some (.int .i64 y.f0)) := ⟨y0⟩
    have Y1 : za0 (wr.drew.cell? ⟨(ad.add ((k + 1) * 2)).block, (ad.add ((k + 1) * 2)).off + 1, none⟩ = some (.int .i64 y.f1)) := ⟨y1⟩
    have HNE : za0 (¬ y = x) := ⟨fun e => incB_ne HI.out hx.out hy.out e.symm⟩
    have hgd : za0 (Below w.heap.size w wr.drew) := ⟨za3 HB.out⟩
    have HLT : za0 (k + 1 < n ∧ n ≤ 1000000) := ⟨⟨hlt, hl⟩⟩
    clear g0 g1 y0 y1
    go_wp2
    clear hltb hlt hk h2b h2
    refine AnyOrder.wp_region (by kernel_rfl) (cpdInv wr.drew ad n c0 k x y _ _ _ _ _ _ _ _ _ _ _ _ _ _ _ _ _ _ _ _ _ _ _ _ _ _ _ _ _ _ _ _ _ _ _ _ _ _ _ _ _ _ _ _ _ _ _ _ _ _ _ _ _ _ _ _ _ _ _) ⟨false, false, false, false, false, false, false, false, false, false, rfl, rfl, ⟨rfl⟩⟩ ?step ?last
    case step =>
     rintro L ac V i ⟨l0, l1, l2, l3, l4, l5, l6, l7, l8, l9, rfl, rfl, HF⟩ hi K hK
     rcases AnyOrder.up hi [0, 1, 4, 5, 2, 7, 3, 6, 8, 9] rfl with rfl | rfl | rfl | rfl | rfl | rfl | rfl | rfl | rfl | rfl
     all_goals
      replace hi := AnyOrder.first hi rfl
      repeat (obtain ⟨ha, hi⟩ := hi; first | obtain rfl := ha | clear ha)
      clear hi
      try simp only [sel_true, selv_true] at hK ⊢
     iterate 4
      ·
       obtain rfl := HF.out
       refine AnyOrder.wpOp_go rfl (by rfl) ?_
       go_wp2_with fail
       exact ⟨_, _, _, _, _, _, _, _, _, _, rfl, rfl, ⟨rfl⟩⟩
     iterate 2
      ·
       obtain rfl := HF.out
       have hlt := HLT.out.1
       have hl := HLT.out.2
       have hk1 : ((k : Int) + 1).toNat = k + 1 := by omega
       refine AnyOrder.wpOp_go rfl (by rfl) ?_
       go_wp2_with fail
       exact ⟨_, _, _, _, _, _, _, _, _, _, rfl, rfl, ⟨rfl⟩⟩
     ·
      obtain rfl := HF.out
      have g0 := Y0.out
      have g1 := Y1.out
      refine AnyOrder.wpOp_go rfl (by rfl) ?_
      go_wp2_with fail
      exact ⟨_, _, _, _, _, _, _, _, _, _, rfl, rfl, ⟨rfl⟩⟩
     ·
      obtain rfl := HF.out
      have hl := HLT.out
      have hw : wrap64 ((k : Int) + 1 - 1) = (k : Int) := by unfold wrap64; omega
      refine AnyOrder.wpOp_go rfl (by rfl) ?_
      go_wp2_with fail
      exact ⟨_, _, _, _, _, _, _, _, _, _, rfl, rfl, ⟨rfl⟩⟩
     ·
      obtain rfl := HF.out
      have g0 := G0.out
      have g1 := G1.out
      refine AnyOrder.wpOp_go rfl (by rfl) ?_
      go_wp2_with fail
      exact ⟨_, _, _, _, _, _, _, _, _, _, rfl, rfl, ⟨rfl⟩⟩
     ·
      obtain rfl := HF.out
      by_cases h0 : y.f0 = x.f0
      ·
       have h1 : ¬ y.f1 = x.f1 := fun h1 => HNE.out (Dot.ext_iff'.2 ⟨h0, h1⟩)
       refine AnyOrder.wpOp_go rfl (by rfl) ?_
       go_wp2_with fail
       exact ⟨_, _, _, _, _, _, _, _, _, _, rfl, rfl, ⟨rfl⟩⟩
      refine AnyOrder.wpOp_go rfl (by rfl) ?_
      go_wp2_with fail
      exact ⟨_, _, _, _, _, _, _, _, _, _, rfl, rfl, ⟨rfl⟩⟩
    case last =>
     rintro L ac V ⟨l0, l1, l2, l3, l4, l5, l6, l7, l8, l9, rfl, rfl, HF⟩ hr
     obtain ⟨rfl, rfl, rfl, rfl, rfl, rfl, rfl, rfl, rfl, rfl, -⟩ := AnyOrder.alls rfl (by kernel_rfl) hr
     clear hr
     simp only [sel_true, selv_true]
     obtain rfl := HF.out
     have hlt2 := HLT.out
     go_wp2
     go_roundw
     case rel => exact ⟨k + 1, by omega, by go_num, hgd⟩
     case measure => simp [intOf] <;> omega
   ·
    obtain rfl : n = k + 1 := by omega
    have hltb : decide ((k : Int) + 1 < ((k + 1 : Nat) : Int)) = false := decide_eq_false (by omega)
    go_wp2
    go_ret
    exact ⟨rfl, HB.out⟩
end
section
theorem findCmp_call (x : Node) (d : Dot) (w : World) : Calls Tryz.prog 96 #[vNode x, vDot d] w fun e w' => e = .returned (.int .i64 (zas x.f0 d)) ∧ Below w.heap.size w w' := by
 have hB : ((w.alloc (.cells #[.int .i64 x.f0.f0, .int .i64 x.f0.f1, .int .i64 x.f1.f0, .int .i64 x.f1.f1, .int .i64 x.f2, .int .i32 x.f3] 53 (0, 0))).alloc (.cells #[.int .i64 d.f0, .int .i64 d.f1] 25 (0, 0))).heap[w.heap.size + 1]? = some (.cells #[.int .i64 d.f0, .int .i64 d.f1] 25 (0, 0)) := by
  have := zal (w.alloc (.cells #[.int .i64 x.f0.f0, .int .i64 x.f0.f1, .int .i64 x.f1.f0, .int .i64 x.f1.f1, .int .i64 x.f2, .int .i32 x.f3] 53 (0, 0))) (.cells #[.int .i64 d.f0, .int .i64 d.f1] 25 (0, 0))
  rwa [show (w.alloc (.cells #[.int .i64 x.f0.f0, .int .i64 x.f0.f1, .int .i64 x.f1.f0, .int .i64 x.f1.f1, .int .i64 x.f2, .int .i32 x.f3] 53 (0, 0))).heap.size = w.heap.size + 1 by simp] at this
 have hA : ((w.alloc (.cells #[.int .i64 x.f0.f0, .int .i64 x.f0.f1, .int .i64 x.f1.f0, .int .i64 x.f1.f1, .int .i64 x.f2, .int .i32 x.f3] 53 (0, 0))).alloc (.cells #[.int .i64 d.f0, .int .i64 d.f1] 25 (0, 0))).heap[w.heap.size]? = some (.cells #[.int .i64 x.f0.f0, .int .i64 x.f0.f1, .int .i64 x.f1.f0, .int .i64 x.f1.f1, .int .i64 x.f2, .int .i32 x.f3] 53 (0, 0)) :=
  za7 (zal w (.cells #[.int .i64 x.f0.f0, .int .i64 x.f0.f1, .int .i64 x.f1.f0, .int .i64 x.f1.f1, .int .i64 x.f2, .int .i32 x.f3] 53 (0, 0))) (Gr.alloc _ _).below
 have HB := za0.mk (za2 (za2 (Below.refl _ w) (.cells #[.int .i64 x.f0.f0, .int .i64 x.f0.f1, .int .i64 x.f1.f0, .int .i64 x.f1.f1, .int .i64 x.f2, .int .i32 x.f3] 53 (0, 0))) (.cells #[.int .i64 d.f0, .int .i64 d.f1] 25 (0, 0)))
 have a0 := (za4 hA 0).trans (show _ = some (Value.int .i64 x.f0.f0) from rfl)
 have a1 := (za4 hA 1).trans (show _ = some (Value.int .i64 x.f0.f1) from rfl)
 have b0 := (za4 hB 0).trans (show _ = some (Value.int .i64 d.f0) from rfl)
 have b1 := (za4 hB 1).trans (show _ = some (Value.int .i64 d.f1) from rfl)
 clear hA hB
 go_enter Tryz.func96, Tryz.ntmps96
 go_wp2_with fail
 refine (dotCmp_call x.f0 d _).mono ?_
 rintro e W3 ⟨rfl, hd⟩
 have hd := hd.below
 go_wp2
 go_ret
 exact ⟨rfl, za5 HB.out hd⟩
def bnrInv (w : World) (B n c : Nat) (ad : Addr) (d : Dot) (i j h : Nat) (k : Node) (z12 z13 z14 z15 z16 z17 z18 z19 z20 z21 z22 z23 u24 u25 u26 u27 u28 u29 u30 u31 u32 u33 u34 : Value) (L : Array Bool) (ac : Act) (V : World) : Prop := ∃ (l0 l1 l2 l3 l4 l5 l6 l7 : Bool), L = #[l0, l1, l2, l3, l4, l5, l6, l7] ∧ ac = { tmps := #[.slice (some ad) n c, vDot d, .func (.func 96) #[] #[], undef, .pointer (some ⟨B, 0, none⟩), undef, .int .i64 0, .bool false, .int .i64 n, .int .i64 i, .int .i64 j, .int .i64 h, z12, z13, z14, z15, z16, z17, z18, z19, z20, z21, z22, z23, selv l0 (.func (.func 96) #[] #[]) (u24), selv l1 (.slice (some ad) n c) (u25), selv l2 (.int .i64 h) (u26), selv l3 (.pointer (some (ad.add (h * 6)))) (u27), selv l4 (vNode k) (u28), selv l5 (vDot d) (u29), selv l6 (.int .i64 (zas k.f0 d)) (u30), selv l7 (.bool (decide (zas k.f0 d < 0))) (u31), u32, u33, u34, undef, undef, undef, undef, undef, undef, undef, undef, undef, undef, undef, undef, undef, undef], defers := [] } ∧ za0 (Bs w d V)
def bntInv (w : World) (B n c : Nat) (ad : Addr) (d : Dot) (q : Nat) (k : Node) (y11 y12 y13 y14 y15 y16 y17 y18 y19 y20 y21 y22 y23 y24 y25 y26 y27 y28 y29 y30 y31 y32 y33 y34 : Value) (L : Array Bool) (ac : Act) (V : World) : Prop := ∃ (l0 l1 l2 l3 l4 l5 l6 l7 l8 l9 l10 l11 l12 l13 l14 l15 : Bool), L = #[l0, l1, l2, l3, l4, l5, l6, l7, l8, l9, l10, l11, l12, l13, l14, l15] ∧ ac = { tmps := #[.slice (some ad) n c, vDot d, .func (.func 96) #[] #[], undef, .pointer (some ⟨B, 0, none⟩), undef, selv l14 (.int .i64 q) (.int .i64 0), selv l15 (.bool (zas k.f0 d == 0)) (.bool false), .int .i64 n, .int .i64 q, .int .i64 q, y11, y12, y13, y14, y15, y16, y17, y18, y19, y20, y21, y22, y23, y24, y25, y26, y27, y28, y29, y30, y31, y32, y33, y34, sel l0 (.int .i64 q), sel l1 (.int .i64 q), sel l2 (.int .i64 n), sel l3 (.bool true), sel l4 (.bool true), sel l5 (.func (.func 96) #[] #[]), sel l6 (.slice (some ad) n c), sel l7 (.int .i64 q), sel l8 (.pointer (some (ad.add (q * 6)))), sel l9 (vNode k), sel l10 (vDot d), sel l11 (.int .i64 (zas k.f0 d)), sel l12 (.bool (zas k.f0 d == 0)), sel l13 (.bool (zas k.f0 d == 0))], defers := [] } ∧ za0 (Bs w d V)
def bnfInv (w : World) (A : Option Addr) (B n c : Nat) (d : Dot) (y11 y12 y13 y14 y15 y16 y17 y18 y19 y20 y21 y22 y23 y24 y25 y26 y27 y28 y29 y30 y31 y32 y33 y34 : Value) (L : Array Bool) (ac : Act) (V : World) : Prop := ∃ (l0 l1 l2 l3 l4 l5 l6 l7 l8 l9 l10 l11 l12 l13 l14 l15 : Bool), L = #[l0, l1, l2, l3, l4, l5, l6, l7, l8, l9, l10, l11, l12, l13, l14, l15] ∧ ac = { tmps := #[.slice A n c, vDot d, .func (.func 96) #[] #[], undef, .pointer (some ⟨B, 0, none⟩), undef, selv l14 (.int .i64 n) (.int .i64 0), selv l15 (.bool false) (.bool false), .int .i64 n, .int .i64 n, .int .i64 n, y11, y12, y13, y14, y15, y16, y17, y18, y19, y20, y21, y22, y23, y24, y25, y26, y27, y28, y29, y30, y31, y32, y33, y34, sel l0 (.int .i64 n), sel l1 (.int .i64 n), sel l2 (.int .i64 n), sel l3 (.bool false), sel l4 (.bool false), sel l5 (undef), sel l6 (undef), sel l7 (undef), sel l8 (undef), sel l9 (undef), sel l10 (undef), sel l11 (undef), sel l12 (undef), sel l13 (.bool false)], defers := [] } ∧ za0 (Bs w d V)
set_option maxHeartbeats 2000000 in
set_option maxRecDepth 100000 in
theorem bsearchN_call (ll : List Node) (A : Option Addr) (n c : Nat) (d : Dot) (w : World) (ks : List Dot) (hks : ll.map (·.f0) = ks) (hs : incB ks = true) (hl : ll.length = n) (hsm : n ≤ 1000000) (he : Kd.C k53 w A n ll) :
  Calls Tryz.prog 95 #[.slice A n c, vDot d, .func (.func 96) #[] #[]] w fun e w' => e = .returned (.tuple #[.int .i64 (posK ks d), .bool (hasK ks d)]) ∧ Below w.heap.size w w' := by
 have HE := za0.mk he
 have HS := za0.mk hs
 have hn := hsm
 have hkl : ks.length = n := by rw [← hks, List.length_map, hl]
 have HKL := za0.mk hkl
 have HQN : za0 (posK ks d ≤ n) := ⟨by rw [← hkl]; exact posK_le ks d⟩
 have HG : za0 (∀ h, h < n → ∃ k : Node, ks[h]? = some k.f0 ∧ ll[h]? = some k) := ⟨fun h hh => by
  obtain ⟨k, hk⟩ : ∃ k, ll[h]? = some k := ⟨_, List.getElem?_eq_getElem (by omega)⟩
  exact ⟨k, by rw [← hks, List.getElem?_map, hk]; rfl, hk⟩⟩
 clear he hs hks hl hkl hsm
 obtain ⟨q, HQ⟩ : ∃ q, za0 (posK ks d = q) := ⟨_, ⟨rfl⟩⟩
 obtain ⟨hf, HHF⟩ : ∃ hf, za0 (hasK ks d = hf) := ⟨_, ⟨rfl⟩⟩
 rw [HQ.out, HHF.out]
 rw [HQ.out] at HQN
 have HB0 : za0 (Bs w d (w.alloc (.cells #[.int .i64 d.f0, .int .i64 d.f1] 25 (0, 0)))) := ⟨(Gr.alloc w _).below, zal _ _⟩
 go_enter Tryz.func95, Tryz.ntmps95
 go_wp2
 go_loopw [9, 10] (fun i j wr => ∃ i' j' : Nat, i' ≤ q ∧ q ≤ j' ∧ j' ≤ n ∧ i = .int .i64 i' ∧ j = .int .i64 j' ∧ za0 (Bs w d wr)) (fun i j _ => (intOf j - intOf i).toNat)
 case atStart => exact ⟨0, n, Nat.zero_le _, HQN.out, Nat.le_refl _, rfl, rfl, HB0⟩
 case round =>
  obtain ⟨i, j, hi, hj, hjn, rfl, rfl, HB⟩ := hrel
  clear HB0
  by_cases hlt : i < j
  ·
   have hlb : decide ((i : Int) < (j : Int)) = true := decide_eq_true (by omega)
   obtain ⟨h, Hh⟩ : ∃ h : Nat, h = (i + j) / 2 := ⟨_, rfl⟩
   have hm : ((i : Int) + (j : Int)) / 2 = (h : Int) := by omega
   have HH : za0 (h < n) := ⟨by omega⟩
   have HIJ : za0 (i ≤ h ∧ h < j) := ⟨by omega⟩
   clear Hh
   obtain ⟨k, hk, hkn⟩ := HG.out _ HH.out
   obtain ⟨ad, rfl, HC⟩ := node_at HE.out (Below.refl _ w) _ k hkn
   have HC := za0.mk HC
   have HL : za0 (dotLt k.f0 d = true ↔ h < q) := ⟨by rw [← HQ.out]; exact posK_iff HS.out d hk⟩
   clear hk hkn
   go_wp2_with fail
   refine AnyOrder.wp_region (by kernel_rfl) (bnrInv w w.heap.size n c ad d i j h k (.slice (some ad) n c) (.int .i64 n) (.int .i64 n) (.int .i64 i) (.int .i64 j) (.bool true) (.int .i64 i) (.int .i64 j) (.int .i64 ((i : Int) + (j : Int))) (.int .u64 ((i : Int) + (j : Int))) (.int .u64 h) (.int .i64 h) u24 u25 u26 u27 u28 u29 u30 u31 u32 u33 u34) ⟨false, false, false, false, false, false, false, false, rfl, rfl, ⟨HB.out.drew⟩⟩ ?step ?last
   case step =>
    rintro L ac V i ⟨l0, l1, l2, l3, l4, l5, l6, l7, rfl, rfl, HF⟩ hi K hK
    rcases AnyOrder.up hi [0, 1, 2, 7, 3, 4, 5, 6] rfl with rfl | rfl | rfl | rfl | rfl | rfl | rfl | rfl
    all_goals
     replace hi := AnyOrder.first hi rfl
     repeat (obtain ⟨ha, hi⟩ := hi; first | obtain rfl := ha | clear ha)
     clear hi
     try simp only [sel_true, selv_true] at hK ⊢
    iterate 4
     ·
      refine AnyOrder.wpOp_go rfl (by rfl) ?_
      go_wp2_with fail
      exact ⟨_, _, _, _, _, _, _, _, rfl, rfl, HF⟩
    ·
     have hh := HH.out
     refine AnyOrder.wpOp_go rfl (by rfl) ?_
     go_wp2_with fail
     exact ⟨_, _, _, _, _, _, _, _, rfl, rfl, HF⟩
    ·
     obtain ⟨q0, q1, q2, q3, q4, q5⟩ := HC.out
     have e0 := zaf HF.out.below q0
     have e1 := zaf HF.out.below q1
     have e2 := zaf HF.out.below q2
     have e3 := zaf HF.out.below q3
     have e4 := zaf HF.out.below q4
     have e5 := zaf HF.out.below q5
     clear q0 q1 q2 q3 q4 q5
     refine AnyOrder.wpOp_go rfl (by rfl) ?_
     go_wp2_with fail
     exact ⟨_, _, _, _, _, _, _, _, rfl, rfl, HF⟩
    ·
     have d0 : V.cell? ⟨w.heap.size, 0, none⟩ = _ := (za4 HF.out.box 0).trans rfl
     have d1 : V.cell? ⟨w.heap.size, 1, none⟩ = _ := (za4 HF.out.box 1).trans rfl
     refine AnyOrder.wpOp_go rfl (by rfl) ?_
     go_wp2_with fail
     exact ⟨_, _, _, _, _, _, _, _, rfl, rfl, HF⟩
    ·
     refine AnyOrder.wpOp_go rfl (by rfl) ?_
     go_wp2_with fail
     refine (findCmp_call k d V).mono ?_
     rintro e V' ⟨rfl, hb⟩
     exact hK _ _ ⟨_, _, _, _, _, _, _, _, rfl, rfl, ⟨HF.out.more hb⟩⟩
   case last =>
    rintro L ac V ⟨l0, l1, l2, l3, l4, l5, l6, l7, rfl, rfl, HF⟩ hr
    obtain ⟨rfl, rfl, rfl, rfl, rfl, rfl, rfl, rfl, -⟩ := AnyOrder.alls rfl (by kernel_rfl) hr
    clear hr
    simp only [sel_true, selv_true]
    clear hm
    rw [dotCmp_lt]
    cases hd : dotLt k.f0 d with
    | true =>
     have hw1 : wrap64 ((h : Int) + 1) = ((h + 1 : Nat) : Int) := by unfold wrap64; have := HH.out; omega
     have h2 := HL.out.1 hd
     have HIJ2 := HIJ.out
     clear hd
     go_wp2_with fail
     refine ⟨⟨h + 1, j, by omega, hj, hjn, by (first | rfl | (rw [hw1])), rfl, HF⟩, ?_⟩
     simp [intOf]; omega
    | false =>
     have h2 : ¬ h < q := fun e => by have := HL.out.2 e; rw [hd] at this; cases this
     have HIJ2 := HIJ.out
     clear hd
     go_wp2_with fail
     refine ⟨⟨i, h, hi, by omega, by omega, rfl, rfl, HF⟩, ?_⟩
     simp [intOf]; omega
  ·
   obtain rfl : q = i := by omega
   obtain rfl : q = j := by omega
   have hlb : decide ((q : Int) < (q : Int)) = false := decide_eq_false (by omega)
   by_cases hq : q < n
   ·
    have HH := za0.mk hq
    obtain ⟨k, hk, hkn⟩ := HG.out _ HH.out
    obtain ⟨ad, rfl, HC⟩ := node_at HE.out (Below.refl _ w) _ k hkn
    have HC := za0.mk HC
    have HR : za0 (hf = (zas k.f0 d == 0)) := ⟨by rw [← HHF.out, hasK, HQ.out, hk, dotCmp_eq]; simp⟩
    clear hk hkn
    go_wp2_with fail
    refine AnyOrder.wp_region (by kernel_rfl) (bntInv w w.heap.size n c ad d q k u11 (.slice (some ad) n c) (.int .i64 n) (.int .i64 n) (.int .i64 q) (.int .i64 q) (.bool false) u18 u19 u20 u21 u22 u23 u24 u25 u26 u27 u28 u29 u30 u31 u32 u33 u34) ⟨false, false, false, false, false, false, false, false, false, false, false, false, false, false, false, false, rfl, rfl, ⟨HB.out.drew⟩⟩ ?step ?last
    case step =>
     rintro L ac V i ⟨l0, l1, l2, l3, l4, l5, l6, l7, l8, l9, l10, l11, l12, l13, l14, l15, rfl, rfl, HF⟩ hi K hK
     rcases AnyOrder.up hi [0, 1, 2, 4, 5, 6, 7, 12, 13, 14, 15, 3, 8, 9, 10, 11] rfl with rfl | rfl | rfl | rfl | rfl | rfl | rfl | rfl | rfl | rfl | rfl | rfl | rfl | rfl | rfl | rfl
     all_goals
      replace hi := AnyOrder.first hi rfl
      repeat (obtain ⟨ha, hi⟩ := hi; first | obtain rfl := ha | clear ha)
      clear hi
      try simp only [sel_true, selv_true] at hK ⊢
     iterate 11
      ·
       refine AnyOrder.wpOp_go rfl (by rfl) ?_
       go_wp2_with fail
       exact ⟨_, _, _, _, _, _, _, _, _, _, _, _, _, _, _, _, rfl, rfl, HF⟩
     ·
      have hh : decide ((q : Int) < (n : Int)) = true := decide_eq_true (by have := HH.out; omega)
      refine AnyOrder.wpOp_go rfl (by rfl) ?_
      go_wp2_with fail
      exact ⟨_, _, _, _, _, _, _, _, _, _, _, _, _, _, _, _, rfl, rfl, HF⟩
     ·
      have hh := HH.out
      refine AnyOrder.wpOp_go rfl (by rfl) ?_
      go_wp2_with fail
      exact ⟨_, _, _, _, _, _, _, _, _, _, _, _, _, _, _, _, rfl, rfl, HF⟩
     ·
      obtain ⟨q0, q1, q2, q3, q4, q5⟩ := HC.out
      have e0 := zaf HF.out.below q0
      have e1 := zaf HF.out.below q1
      have e2 := zaf HF.out.below q2
      have e3 := zaf HF.out.below q3
      have e4 := zaf HF.out.below q4
      have e5 := zaf HF.out.below q5
      clear q0 q1 q2 q3 q4 q5
      refine AnyOrder.wpOp_go rfl (by rfl) ?_
      go_wp2_with fail
      exact ⟨_, _, _, _, _, _, _, _, _, _, _, _, _, _, _, _, rfl, rfl, HF⟩
     ·
      have d0 : V.cell? ⟨w.heap.size, 0, none⟩ = _ := (za4 HF.out.box 0).trans rfl
      have d1 : V.cell? ⟨w.heap.size, 1, none⟩ = _ := (za4 HF.out.box 1).trans rfl
      refine AnyOrder.wpOp_go rfl (by rfl) ?_
      go_wp2_with fail
      exact ⟨_, _, _, _, _, _, _, _, _, _, _, _, _, _, _, _, rfl, rfl, HF⟩
     ·
      refine AnyOrder.wpOp_go rfl (by rfl) ?_
      go_wp2_with fail
      refine (findCmp_call k d V).mono ?_
      rintro e V' ⟨rfl, hb⟩
      exact hK _ _ ⟨_, _, _, _, _, _, _, _, _, _, _, _, _, _, _, _, rfl, rfl, ⟨HF.out.more hb⟩⟩
    case last =>
     rintro L ac V ⟨l0, l1, l2, l3, l4, l5, l6, l7, l8, l9, l10, l11, l12, l13, l14, l15, rfl, rfl, HF⟩ hr
     obtain ⟨rfl, rfl, rfl, rfl, rfl, rfl, rfl, rfl, rfl, rfl, rfl, rfl, rfl, rfl, rfl, rfl, -⟩ := AnyOrder.alls rfl (by kernel_rfl) hr
     clear hr
     simp only [sel_true, selv_true]
     go_wp2
     refine bodyPost_ret (results_tmp2 rfl _ _ _) rfl ?_
     exact ⟨by rw [HR.out]; rfl, HF.out.below⟩
   ·
    obtain rfl : n = q := by omega
    have HR : za0 (hf = false) := ⟨by rw [← HHF.out, hasK, HQ.out, List.getElem?_eq_none (by rw [HKL.out]; exact Nat.le_refl _)]; rfl⟩
    go_wp2_with fail
    refine AnyOrder.wp_region (by kernel_rfl) (bnfInv w A w.heap.size n c d u11 (.slice A n c) (.int .i64 n) (.int .i64 n) (.int .i64 n) (.int .i64 n) (.bool false) u18 u19 u20 u21 u22 u23 u24 u25 u26 u27 u28 u29 u30 u31 u32 u33 u34) ⟨false, false, false, false, false, false, false, false, false, false, false, false, false, false, false, false, rfl, rfl, ⟨HB.out.drew⟩⟩ ?step ?last
    case step =>
     rintro L ac V i ⟨l0, l1, l2, l3, l4, l5, l6, l7, l8, l9, l10, l11, l12, l13, l14, l15, rfl, rfl, HF⟩ hi K hK
     rcases AnyOrder.up hi [0, 1, 2, 4, 13, 14, 15, 3, 5, 6, 7, 8, 9, 10, 11, 12] rfl with rfl | rfl | rfl | rfl | rfl | rfl | rfl | rfl | rfl | rfl | rfl | rfl | rfl | rfl | rfl | rfl
     all_goals
      replace hi := AnyOrder.first hi rfl
      repeat (obtain ⟨ha, hi⟩ := hi; first | obtain rfl := ha | clear ha)
      clear hi
      try simp only [sel_true, selv_true] at hK ⊢
     iterate 7
      ·
       refine AnyOrder.wpOp_go rfl (by rfl) ?_
       go_wp2_with fail
       exact ⟨_, _, _, _, _, _, _, _, _, _, _, _, _, _, _, _, rfl, rfl, HF⟩
     ·
      have hh : decide ((n : Int) < (n : Int)) = false := decide_eq_false (by omega)
      refine AnyOrder.wpOp_go rfl (by rfl) ?_
      go_wp2_with fail
      exact ⟨_, _, _, _, _, _, _, _, _, _, _, _, _, _, _, _, rfl, rfl, HF⟩
     iterate 8
      ·
       refine AnyOrder.wpOp_out rfl (by rfl) ?_
       exact hK _ _ ⟨_, _, _, _, _, _, _, _, _, _, _, _, _, _, _, _, rfl, rfl, HF⟩
    case last =>
     rintro L ac V ⟨l0, l1, l2, l3, l4, l5, l6, l7, l8, l9, l10, l11, l12, l13, l14, l15, rfl, rfl, HF⟩ hr
     obtain ⟨rfl, rfl, rfl, rfl, rfl, rfl, rfl, rfl, rfl, rfl, rfl, rfl, rfl, rfl, rfl, rfl, -⟩ := AnyOrder.alls rfl (by kernel_rfl) hr
     clear hr
     simp only [sel_true, selv_true]
     go_wp2
     refine bodyPost_ret (results_tmp2 rfl _ _ _) rfl ?_
     exact ⟨by rw [HR.out]; rfl, HF.out.below⟩
end
end Go.Proofs.YtmbndijbpgobeaaGreat.PWalk
end
section
namespace Go.Proofs.YtmbndijbpgobeaaGreat.PWalk
open Go.RowKit Go.Proofs.YtmbndijbpgobeaaGreatW.PrintWords Go.Proofs.YtmbndijbpgobeaaGreatW.PrintLast Go.Proofs.YtmbndijbpgobeaaGreatW.PrintMore
set_option linter.unusedVariables false
set_option linter.unusedSimpArgs false
open Go.Shelf
attribute [local go_sem] Oper.semAt_some
set_option maxHeartbeats 2000000 in
set_option maxRecDepth 100000 in
section
theorem storefind_call (ll : List Node) (A : Option Addr) (n c : Nat) (d : Dot) (w : World) (ks : List Dot) (hks : ll.map (·.f0) = ks) (hs : incB ks = true) (hl : ll.length = n) (hsm : n ≤ 1000000) (he : Kd.C k53 w A n ll) :
  Calls Tryz.prog 71 #[.slice A n c, vDot d] w fun e w' => e = .returned (.tuple #[.int .i64 (posK ks d), .bool (hasK ks d)]) ∧ Below w.heap.size w w' := by
 have HX := za0.mk (zal w (dotC d))
 have HB := za0.mk (Gr.alloc w (dotC d)).below
 have HBS := za0.mk (bsearchN_call ll A n c d (w.alloc (dotC d)) ks hks hs hl hsm (Kd.C_below he HB.out))
 obtain ⟨q, HQ⟩ : ∃ q, za0 (posK ks d = q) := ⟨_, ⟨rfl⟩⟩
 obtain ⟨hf, HHF⟩ : ∃ hf, za0 (hasK ks d = hf) := ⟨_, ⟨rfl⟩⟩
 rw [HQ.out, HHF.out] at HBS ⊢
 clear hks hs hl hsm he
 have x0 : (w.alloc (dotC d)).cell? ⟨w.heap.size, 0, none⟩ = _ := (za4 HX.out 0).trans rfl
 have x1 : (w.alloc (dotC d)).cell? ⟨w.heap.size, 1, none⟩ = _ := (za4 HX.out 1).trans rfl
 go_enter Tryz.func71, Tryz.ntmps71
 go_wp2_with fail
 refine HBS.out.mono ?_
 rintro e V ⟨rfl, hb⟩
 have HB := za0.mk (za5 HB.out hb)
 clear hb x0 x1
 go_wp2
 refine bodyPost_ret (results_tmp2 rfl _ _ _) rfl ?_
 exact ⟨rfl, HB.out⟩
theorem find_in {ll : List Node} (hs : zak ll = true) {k : Nat} {x : Node} (hk : ll[k]? = some x) : posK (ll.map (·.f0)) x.f0 = k ∧ hasK (ll.map (·.f0)) x.f0 = true := by
 have hi : incB (ll.map (·.f0)) = true := by
  unfold zak at hs
  rw [Bool.and_eq_true] at hs
  exact hs.2
 have hks : (ll.map (·.f0))[k]? = some x.f0 := by rw [List.getElem?_map, hk]; rfl
 have hnot : ¬ k < posK (ll.map (·.f0)) x.f0 := fun h => by
  have := (posK_iff hi x.f0 hks).2 h
  rw [dotLt_irrefl] at this; cases this
 have hle : ∀ j, j < k → j < posK (ll.map (·.f0)) x.f0 := fun j hj => by
  have hkl := (List.getElem?_eq_some_iff.1 hk).1
  have hjl : j < ll.length := by omega
  have hy : ll[j]? = some ll[j] := List.getElem?_eq_getElem hjl
  have hyk : (ll.map (·.f0))[j]? = some (ll[j]).f0 := by rw [List.getElem?_map, hy]; rfl
  refine (posK_iff hi x.f0 hyk).1 ?_
  have hinc := (store_of hs).inc
  unfold Inc at hinc
  have := List.pairwise_iff_getElem.1 hinc j k hjl hkl hj
  rw [show ll[k] = x from (List.getElem?_eq_some_iff.1 hk).2] at this
  exact this
 have hp : posK (ll.map (·.f0)) x.f0 = k := by
  by_cases h0 : k = 0
  ·
   omega
  ·
   have := hle (k - 1) (by omega)
   omega
 refine ⟨hp, ?_⟩
 unfold hasK
 rw [hp, hks]
 exact decide_eq_true rfl
end
end Go.Proofs.YtmbndijbpgobeaaGreat.PWalk
end
section
namespace Go.Proofs.YtmbndijbpgobeaaGreat.PWalk
open Go.RowKit Go.Proofs.YtmbndijbpgobeaaGreatW.PrintWords Go.Proofs.YtmbndijbpgobeaaGreatW.PrintLast Go.Proofs.YtmbndijbpgobeaaGreatW.PrintMore
attribute [local go_sem] max2_int max_two
set_option linter.unusedVariables false
set_option linter.unusedSimpArgs false
section
def node_Kill.f (a0_0 : Int) (a0_1 : Int) (a0_2 : Int) (a0_3 : Int) (a0_4 : Int) (a0_5 : Int) : Option (Int × Int × Int × Int × Int × Int) := some (a0_0, a0_1, a0_2, a0_3, a0_4, 0)
set_option maxHeartbeats 8000000 in
set_option maxRecDepth 100000 in
theorem node_Kill.calls (a0_0 : Int) (a0_1 : Int) (a0_2 : Int) (a0_3 : Int) (a0_4 : Int) (a0_5 : Int) (r1 : Int) (r2 : Int) (r3 : Int) (r4 : Int) (r5 : Int) (r6 : Int) (w : World) (h : node_Kill.f a0_0 a0_1 a0_2 a0_3 a0_4 a0_5 = some (r1, r2, r3, r4, r5, r6)) :
  Calls Tryz.prog 72 #[.agg #[.int .i64 a0_0, .int .i64 a0_1, .int .i64 a0_2, .int .i64 a0_3, .int .i64 a0_4, .int .i32 a0_5]] w fun e w' => e = .returned (.agg #[.int .i64 r1, .int .i64 r2, .int .i64 r3, .int .i64 r4, .int .i64 r5, .int .i32 r6]) ∧ Below w.heap.size w w' := by
 have hu53 := Tryz.underlying53
 have HB := za0.mk (Below.refl w.heap.size w)
 have H : (some (a0_0, a0_1, a0_2, a0_3, a0_4, 0)) = some (r1, r2, r3, r4, r5, r6) := h
 clear h
 simp only [Option.some.injEq, Prod.mk.injEq] at H
 obtain ⟨rfl, rfl, rfl, rfl, rfl, rfl⟩ := H
 go_enter Tryz.func72, Tryz.ntmps72
 go_wp2_with (first | ((with_reducible refine zaq (N := 1) rfl ?_); refine zao ?hg (N := 1) ?hd (cs := #[.int .i64 a0_0, .int .i64 a0_1, .int .i64 a0_2, .int .i64 a0_3, .int .i64 a0_4, .int .i32 a0_5]) (t := 53) ?hr ?_; (case hd => rfl); (case hg => rfl); (case hr => first | (go_simp; done) | (go_simp; rfl)); intro gb159 hg w2 hbox hb; have n0_ := za0.mk (zaa (by repeat (first | (with_reducible first | exact HB.out | apply za2 | apply za1 | apply za3) | exact HB.out)) hb); have n1_ := za0.mk (hbox); have n2_ := za0.mk ((by rw [hg]; exact (za8 (by repeat (first | (with_reducible first | exact HB.out | apply za2 | apply za1 | apply za3) | exact HB.out))) : w.heap.size ≤ gb159)); have n3_ := za0.mk ((by rw [hg]; exact (za8 (by repeat (first | (with_reducible first | exact HB.out | apply za2 | apply za1 | apply za3) | exact HB.out))) : w.heap.size ≤ gb159)); clear HB; have HB := n0_; have BK159 := n1_; have GW159 := n2_; have GE159 := n3_; clear n0_ n1_ n2_ n3_; clear hb hbox hg) | ((with_reducible refine zaq (N := 2) rfl ?_); refine zao ?hg (N := 2) ?hd (cs := #[.int .i64 0, .int .i64 0, .int .i64 0, .int .i64 0, .int .i64 0, .int .i32 0]) (t := 53) ?hr ?_; (case hd => rfl); (case hg => rfl); (case hr => first | (go_simp; done) | (go_simp; rfl)); intro gb160 hg w3 hbox hb; have n0_ := za0.mk (blk_below (g := gb159) (o := .cells #[.int .i64 a0_0, .int .i64 a0_1, .int .i64 a0_2, .int .i64 a0_3, .int .i64 a0_4, .int .i32 a0_5] 53 (0, 0)) (by (with_reducible repeat (first | refine zaj ?_ _ | refine zai ?_ | refine zad ?_ _)); exact BK159.out) hb); have n1_ := za0.mk (zaa (by repeat (first | (with_reducible first | exact HB.out | apply za2 | apply za1 | apply za3 | refine zae ?_ GE159.out) | exact HB.out)) hb); have n2_ := za0.mk (hbox); have n3_ := za0.mk ((by rw [hg]; exact (za8 (by repeat (first | (with_reducible first | exact HB.out | apply za2 | apply za1 | apply za3 | refine zae ?_ GE159.out) | exact HB.out))) : w.heap.size ≤ gb160)); have n4_ := za0.mk ((by rw [hg]; exact (za8 (by repeat (first | (with_reducible first | exact HB.out | apply za2 | apply za1 | apply za3 | refine zae ?_ GE159.out) | exact HB.out))) : w.heap.size ≤ gb160)); have n5_ := za0.mk ((by rw [hg]; exact Nat.ne_of_lt (zan (g := gb159) (o := .cells #[.int .i64 a0_0, .int .i64 a0_1, .int .i64 a0_2, .int .i64 a0_3, .int .i64 a0_4, .int .i32 a0_5] 53 (0, 0)) (by (with_reducible repeat (first | refine zaj ?_ _ | refine zai ?_ | refine zad ?_ _)); exact BK159.out)) : gb159 ≠ gb160)); have n6_ := za0.mk ((by rw [hg]; exact Nat.ne_of_gt (zan (g := gb159) (o := .cells #[.int .i64 a0_0, .int .i64 a0_1, .int .i64 a0_2, .int .i64 a0_3, .int .i64 a0_4, .int .i32 a0_5] 53 (0, 0)) (by (with_reducible repeat (first | refine zaj ?_ _ | refine zai ?_ | refine zad ?_ _)); exact BK159.out)) : gb160 ≠ gb159)); clear BK159; clear HB; have BK159 := n0_; have HB := n1_; have BK160 := n2_; have GW160 := n3_; have GE160 := n4_; have NB159_160 := n5_; have NB160_159 := n6_; clear n0_ n1_ n2_ n3_ n4_ n5_ n6_; clear hb hbox hg; have hnb4 := NB159_160.out; have hnc4 := NB160_159.out; have hcz5_0 : w3.cell? ⟨gb159, 0, none⟩ = some (.int .i64 a0_0) := (za4 BK159.out 0).trans rfl; have hcz5_1 : w3.cell? ⟨gb159, 1, none⟩ = some (.int .i64 a0_1) := (za4 BK159.out 1).trans rfl; have hcz5_2 : w3.cell? ⟨gb159, 2, none⟩ = some (.int .i64 a0_2) := (za4 BK159.out 2).trans rfl; have hcz5_3 : w3.cell? ⟨gb159, 3, none⟩ = some (.int .i64 a0_3) := (za4 BK159.out 3).trans rfl; have hcz5_4 : w3.cell? ⟨gb159, 4, none⟩ = some (.int .i64 a0_4) := (za4 BK159.out 4).trans rfl; have hcz5_5 : w3.cell? ⟨gb159, 5, none⟩ = some (.int .i32 a0_5) := (za4 BK159.out 5).trans rfl; have hfz5_0 := za6 BK159.out 0; have hfz5_1 := za6 BK159.out 1; have hfz5_2 := za6 BK159.out 2; have hfz5_3 := za6 BK159.out 3; have hfz5_4 := za6 BK159.out 4; have hfz5_5 := za6 BK159.out 5; have hcz6_0 : w3.cell? ⟨gb160, 0, none⟩ = some (.int .i64 0) := (za4 BK160.out 0).trans rfl; have hcz6_1 : w3.cell? ⟨gb160, 1, none⟩ = some (.int .i64 0) := (za4 BK160.out 1).trans rfl; have hcz6_2 : w3.cell? ⟨gb160, 2, none⟩ = some (.int .i64 0) := (za4 BK160.out 2).trans rfl; have hcz6_3 : w3.cell? ⟨gb160, 3, none⟩ = some (.int .i64 0) := (za4 BK160.out 3).trans rfl; have hcz6_4 : w3.cell? ⟨gb160, 4, none⟩ = some (.int .i64 0) := (za4 BK160.out 4).trans rfl; have hcz6_5 : w3.cell? ⟨gb160, 5, none⟩ = some (.int .i32 0) := (za4 BK160.out 5).trans rfl; have hfz6_0 := za6 BK160.out 0; have hfz6_1 := za6 BK160.out 1; have hfz6_2 := za6 BK160.out 2; have hfz6_3 := za6 BK160.out 3; have hfz6_4 := za6 BK160.out 4; have hfz6_5 := za6 BK160.out 5))
 refine bodyPost_ret (results_cell_row rfl _ _ gb160 53 #[.int .i64 a0_0, .int .i64 a0_1, .int .i64 a0_2, .int .i64 a0_3, .int .i64 a0_4, .int .i32 0] (0, 0) _ rfl (by (with_reducible repeat (first | refine zaj ?_ _ | refine zai ?_ | refine zad ?_ _)); refine blk_put (cs := #[.int .i64 a0_0, .int .i64 a0_1, .int .i64 a0_2, .int .i64 a0_3, .int .i64 a0_4, .int .i32 0]) ?_ 5 _ rfl; (with_reducible repeat (first | refine zaj ?_ _ | refine zai ?_ | refine zad ?_ _)); refine blk_put (cs := #[.int .i64 a0_0, .int .i64 a0_1, .int .i64 a0_2, .int .i64 a0_3, .int .i64 0, .int .i32 0]) ?_ 4 _ rfl; (with_reducible repeat (first | refine zaj ?_ _ | refine zai ?_ | refine zad ?_ _)); refine blk_put (cs := #[.int .i64 a0_0, .int .i64 a0_1, .int .i64 a0_2, .int .i64 0, .int .i64 0, .int .i32 0]) ?_ 3 _ rfl; (with_reducible repeat (first | refine zaj ?_ _ | refine zai ?_ | refine zad ?_ _)); refine blk_put (cs := #[.int .i64 a0_0, .int .i64 a0_1, .int .i64 0, .int .i64 0, .int .i64 0, .int .i32 0]) ?_ 2 _ rfl; (with_reducible repeat (first | refine zaj ?_ _ | refine zai ?_ | refine zad ?_ _)); refine blk_put (cs := #[.int .i64 a0_0, .int .i64 0, .int .i64 0, .int .i64 0, .int .i64 0, .int .i32 0]) ?_ 1 _ rfl; (with_reducible repeat (first | refine zaj ?_ _ | refine zai ?_ | refine zad ?_ _)); refine blk_put (cs := #[.int .i64 0, .int .i64 0, .int .i64 0, .int .i64 0, .int .i64 0, .int .i32 0]) ?_ 0 _ rfl; (with_reducible repeat (first | refine zaj ?_ _ | refine zai ?_ | refine zad ?_ _)); refine blk_far ?_ NB160_159.out _; (with_reducible repeat (first | refine zaj ?_ _ | refine zai ?_ | refine zad ?_ _)); exact BK160.out) Tryz.underlying53 rfl (by kernel_rfl)) rfl ?_
 exact ⟨by first | rfl | (simp [zac, zab] <;> rfl) | (simp [*, zac, zab] <;> rfl), by repeat (first | (with_reducible first | exact HB.out | apply za2 | apply za1 | apply za3 | refine zae ?_ GE159.out | refine zae ?_ GE160.out) | exact HB.out)⟩
end
end Go.Proofs.YtmbndijbpgobeaaGreat.PWalk
end
section
namespace Go.Proofs.YtmbndijbpgobeaaGreat.PWalk
open Go.RowKit Go.Proofs.YtmbndijbpgobeaaGreatW.PrintWords Go.Proofs.YtmbndijbpgobeaaGreatW.PrintLast Go.Proofs.YtmbndijbpgobeaaGreatW.PrintMore
set_option linter.unusedVariables false
set_option linter.unusedSimpArgs false
open Go.Shelf
attribute [local go_sem] Oper.semAt_some
section
def idxD (p : Dot → Bool) (l : List Dot) : Int := match l.findIdx? p with | some i => (i : Int) | none => -1
theorem idxD_at {p : Dot → Bool} {l : List Dot} {k : Nat} {x : Dot} (hk : l[k]? = some x) (hx : p x = true) (hno : ∀ j y, j < k → l[j]? = some y → p y = false) : idxD p l = k := by
 unfold idxD
 rw [List.findIdx?_eq_some_iff_getElem.2 ⟨(List.getElem?_eq_some_iff.1 hk).1, by rw [(List.getElem?_eq_some_iff.1 hk).2]; exact hx, fun j hj => by rw [hno j _ hj (List.getElem?_eq_getElem _)]; simp⟩]
theorem idxD_none {p : Dot → Bool} {l : List Dot} (hno : ∀ j y, j < l.length → l[j]? = some y → p y = false) : idxD p l = -1 := by
 unfold idxD
 rw [List.findIdx?_eq_none_iff.2 fun x hx => by
  obtain ⟨j, hj⟩ := List.getElem?_of_mem hx
  exact hno j x (List.getElem?_eq_some_iff.1 hj).1 hj]
theorem noD_step {p : Dot → Bool} {l : List Dot} {k : Nat} {x : Dot} (hk : l[k]? = some x) (hx : p x = false) (hno : ∀ j y, j < k → l[j]? = some y → p y = false) : ∀ j y, j < k + 1 → l[j]? = some y → p y = false := by
 intro j y hj hy
 rcases Nat.lt_succ_iff_lt_or_eq.1 hj with h | h
 ·
  exact hno j y h hy
 ·
  subst h; rw [hk] at hy; cases hy; exact hx
set_option maxHeartbeats 400000 in
theorem IndexFuncDot.calls (p : Dot → Bool) (fn : Nat) (A0 : Option Addr) (c0 : Nat) (l0 : List Dot) (w : World) (hr0 : Kd.C k25 w A0 l0.length l0) (hc0 : l0.length ≤ c0)
  (hcall : ∀ args W, (callFunc fn args).run Tryz.prog W = .ok (.enter fn args) W)
  (hp : ∀ x W, Calls Tryz.prog fn #[vDot x] W fun e W' => e = .returned (.bool (p x)) ∧ Below W.heap.size W W') :
  Calls Tryz.prog 94 #[.slice A0 l0.length c0, .func (.func fn) #[] #[]] w fun e w' => e = .returned (.int .i64 (idxD p l0)) ∧ Below w.heap.size w w' := by
 have hm := Kd.C_max hr0
 have hu := Tryz.underlying25
 have HR := za0.mk hr0
 have HP := za0.mk hp
 have HC := za0.mk hc0
 clear hr0 hp hc0
 go_enter Tryz.func94, Tryz.ntmps94
 go_wp2
 go_loopw [5, 8] (fun _ i wr => ∃ k : Nat, k ≤ l0.length ∧ i = .int .i64 k ∧ za0 (∀ j y, j < k → l0[j]? = some y → p y = false) ∧ za0 (Below w.heap.size w wr)) (fun _ i _ => l0.length - (intOf i).toNat)
 case atStart => exact ⟨0, Nat.zero_le _, rfl, ⟨fun j y hj => absurd hj (Nat.not_lt_zero _)⟩, ⟨Below.refl _ _⟩⟩
 case round =>
  obtain ⟨k, hk, rfl, hno, hb⟩ := hrel
  by_cases hlt : k < l0.length
  ·
   obtain ⟨x, hx⟩ : ∃ x, za0 (l0[k]? = some x) := ⟨_, ⟨List.getElem?_eq_getElem hlt⟩⟩
   obtain ⟨ad, e, h0, h1⟩ := dot_at HR.out hb.out k x hx.out
   subst e
   cases hpx : p x with
   | true =>
    have HX := za0.mk hpx
    clear hpx
    go_wp2
    refine (HP.out x _).mono ?_
    rintro e W' ⟨rfl, hb2⟩
    rw [HX.out]
    go_wp2
    go_ret
    exact ⟨by rw [idxD_at hx.out HX.out hno.out]; rfl, below_then hb.out hb.out.size hb2⟩
   | false =>
    have HX := za0.mk hpx
    clear hpx
    go_wp2
    refine (HP.out x _).mono ?_
    rintro e W' ⟨rfl, hb2⟩
    rw [HX.out]
    go_wp2
    go_roundw
    case rel => exact ⟨k + 1, by omega, by go_num, ⟨noD_step hx.out HX.out hno.out⟩, ⟨below_then hb.out hb.out.size hb2⟩⟩
    case measure => simp [intOf]; omega
  ·
   go_wp2
   go_ret
   obtain rfl : k = l0.length := by omega
   exact ⟨by rw [idxD_none hno.out]; rfl, hb.out⟩
set_option maxHeartbeats 400000 in
theorem ContainsFuncDot.calls (p : Dot → Bool) (fn : Nat) (A0 : Option Addr) (c0 : Nat) (l0 : List Dot) (w : World) (hr0 : Kd.C k25 w A0 l0.length l0) (hc0 : l0.length ≤ c0)
  (hcall : ∀ args W, (callFunc fn args).run Tryz.prog W = .ok (.enter fn args) W)
  (hp : ∀ x W, Calls Tryz.prog fn #[vDot x] W fun e W' => e = .returned (.bool (p x)) ∧ Below W.heap.size W W') :
  Calls Tryz.prog 68 #[.slice A0 l0.length c0, .func (.func fn) #[] #[]] w fun e w' => e = .returned (.bool (l0.any p)) ∧ Below w.heap.size w w' := by
 have HI := za0.mk (IndexFuncDot.calls p fn A0 c0 l0 w hr0 hc0 hcall hp)
 clear hr0 hc0 hp hcall
 go_enter Tryz.func68, Tryz.ntmps68
 go_wp2_with fail
 refine HI.out.mono ?_
 rintro e W' ⟨rfl, hb⟩
 have hi : decide (idxD p l0 ≥ 0) = l0.any p := by
  unfold idxD
  cases h : l0.findIdx? p with
  | none => simp [List.findIdx?_eq_none_iff] at h; simp; exact h
  | some i => simp; exact ⟨_, List.getElem_mem (List.findIdx?_eq_some_iff_getElem.1 h).1, (List.findIdx?_eq_some_iff_getElem.1 h).2.1⟩
 have HI2 := za0.mk hi
 clear hi
 go_wp2
 go_ret
 exact ⟨by rw [← HI2.out]; rfl, hb⟩
theorem badDot_call (d : Dot) (W : World) : Calls Tryz.prog 69 #[vDot d] W fun e W' => e = .returned (.bool (!dotOk d)) ∧ Below W.heap.size W W' := by
 have HX := za0.mk (zal W (dotC d))
 have HB := za0.mk (Gr.alloc W (dotC d)).below
 go_enter Tryz.func69, Tryz.ntmps69
 go_wp2_with fail
 refine (dot_Valid.calls d.f0 d.f1 (dotOk d) _ (by rw [dotValid_is])).mono ?_
 rintro e V ⟨rfl, hb⟩
 have HB2 := za0.mk (za5 HB.out hb)
 clear hb
 go_wp2
 go_ret
 exact ⟨rfl, HB2.out⟩
def deadN (x : Node) : Node := ⟨x.f0, x.f1, x.f2, 0⟩
/-- The nodes with some dots were deleted, one after the other. -/
def killFrom (ks : List Dot) : List Node → List Dot → Option (List Node)
 | o, [] => some o
 | o, d :: ds => if hasK ks d = true then killFrom ks (o.modify (posK ks d) deadN) ds else none
def killOut : Option (List Node) → List Node × Int
 | some o => (o, 0)
 | none => ([], 9)
def store_Kill.f (l0 : List Node) (l1 : List Dot) : Option (List Node × Int) :=
 if l0.length ≤ 1000000 ∧ l1.length ≤ 1000000 then some (if zak l0 = true ∧ l1.all dotOk = true then killOut (killFrom (l0.map (·.f0)) l0 l1) else ([], 2)) else none
theorem modify_dots (o : List Node) (k : Nat) : (o.modify k deadN).map (·.f0) = o.map (·.f0) := by
 apply List.ext_getElem?
 intro i
 rw [List.getElem?_map, List.getElem?_map, List.getElem?_modify]
 split
 ·
  cases o[i]? <;> rfl
 ·
  cases o[i]? <;> rfl
theorem modify_set (o : List Node) (k : Nat) (x : Node) (h : o[k]? = some x) : o.set k (deadN x) = o.modify k deadN := by
 apply List.ext_getElem?
 intro i
 rw [List.getElem?_set, List.getElem?_modify]
 have hk := (List.getElem?_eq_some_iff.1 h).1
 by_cases e : k = i
 ·
  subst e
  simp [hk, (List.getElem?_eq_some_iff.1 h).2]
 ·
  simp [e]
set_option maxHeartbeats 1000000 in
set_option maxRecDepth 100000 in
theorem store_Kill.calls (A0 : Option Addr) (c0 : Nat) (ll : List Node) (A1 : Option Addr) (c1 : Nat) (ds : List Dot) (r1 : List Node) (r2 : Int) (w : World) (hr0 : Kd.C k53 w A0 ll.length ll) (hc0 : ll.length ≤ c0) (hr1 : Kd.C k25 w A1 ds.length ds) (hc1 : ds.length ≤ c1) (h : store_Kill.f ll ds = some (r1, r2)) :
  Calls Tryz.prog 44 #[.slice A0 ll.length c0, .slice A1 ds.length c1] w fun e w' => ∃ v0_ : Value, e = .returned (.tuple #[v0_, .int .i64 r2]) ∧ Kd.R k53 53 w' w.heap.size (fun _ => True) v0_ r1 ∧ Below w.heap.size w w' := by
 unfold store_Kill.f at h
 by_cases hl : ll.length ≤ 1000000 ∧ ds.length ≤ 1000000
 rotate_left
 ·
  rw [if_neg hl] at h; cases h
 rw [if_pos hl] at h
 have HH := za0.mk (Option.some.inj h)
 have HR := za0.mk hr0
 have HC := za0.mk hc0
 have HRD := za0.mk hr1
 have HL := za0.mk hl
 have hmd := Kd.C_max hr1
 obtain ⟨b, Hb⟩ : ∃ b, za0 (zak ll = b) := ⟨_, ⟨rfl⟩⟩
 obtain ⟨b2, Hb2⟩ : ∃ b, za0 (ds.all dotOk = b) := ⟨_, ⟨rfl⟩⟩
 have HVAL := za0.mk (store_Valid.calls A0 c0 ll b w HR.out HC.out (by unfold store_Valid.f; rw [if_pos HL.out.1, Hb.out]))
 have HCF : za0 (∀ W, Below w.heap.size w W → Calls Tryz.prog 68 #[.slice A1 ds.length c1, .func (.func 69) #[] #[]] W fun e W' => e = .returned (.bool (!b2)) ∧ Below W.heap.size W W') := ⟨fun W hb => by
  have := ContainsFuncDot.calls (fun d => !dotOk d) 69 A1 c1 ds W (Kd.C_below HRD.out hb) hc1 (enters_of Tryz.func69 (by kernel_rfl) rfl) badDot_call
  rwa [show (ds.any fun d => !dotOk d) = !b2 by rw [← Hb2.out, List.not_all_eq_any_not]] at this⟩
 rw [Hb.out, Hb2.out] at HH
 clear h hr0 hc0 hr1 hc1 hl
 go_enter Tryz.func44, Tryz.ntmps44
 go_wp2_with fail
 refine HVAL.out.mono ?_
 rintro e V1 ⟨rfl, hb⟩
 have HB := za0.mk hb
 clear hb HVAL
 cases b with
 | false =>
  obtain ⟨rfl, rfl⟩ : r1 = [] ∧ r2 = 2 := by
   have := HH.out
   rw [if_neg (by simp)] at this
   cases this
   exact ⟨rfl, rfl⟩
  go_wp2
  go_ret2
  exact ⟨_, rfl, Kd.R_nil _ _ _ _ _, HB.out⟩
 | true =>
  go_wp2_with fail
  refine (HCF.out V1 HB.out).mono ?_
  rintro e V2 ⟨rfl, hb⟩
  have HB := za0.mk (za5 HB.out hb)
  clear hb HCF
  cases b2 with
  | false =>
   obtain ⟨rfl, rfl⟩ : r1 = [] ∧ r2 = 2 := by
    have := HH.out
    rw [if_neg (by simp)] at this
    cases this
    exact ⟨rfl, rfl⟩
   go_wp2
   go_ret2
   exact ⟨_, rfl, Kd.R_nil _ _ _ _ _, HB.out⟩
  | true =>
   go_wp2_with fail
   refine (CloneNode.calls A0 c0 ll V2 (Kd.C_below HR.out HB.out) HL.out.1).mono ?_
   rintro e V3 ⟨v3, rfl, hR3, hb⟩
   have HB3 := za0.mk hb
   obtain ⟨A3, c3, rfl⟩ := RN.slice hR3
   obtain ⟨n, Hn⟩ : ∃ n, za0 (ll.length = n) := ⟨_, ⟨rfl⟩⟩
   rw [Hn.out] at hR3 ⊢
   have HR3 := za0.mk hR3
   have HK := za0.mk (show killFrom (ll.map (·.f0)) ll (ds.drop 0) = killFrom (ll.map (·.f0)) ll ds by rw [List.drop_zero])
   obtain ⟨kr, Hkr⟩ : ∃ kr, za0 (killFrom (ll.map (·.f0)) ll ds = kr) := ⟨_, ⟨rfl⟩⟩
   rw [Hkr.out] at HK HH
   have HHH := za0.mk (show killOut kr = (r1, r2) by have := HH.out; rw [if_pos (by simp)] at this; exact this)
   obtain ⟨ks, Hks⟩ : ∃ ks, za0 (ll.map (·.f0) = ks) := ⟨_, ⟨rfl⟩⟩
   rw [Hks.out] at HK
   have HKI : za0 (incB ks = true) := ⟨by have := Hb.out; unfold zak at this; rw [Bool.and_eq_true] at this; rw [← Hks.out]; exact this.2⟩
   clear hb hR3
   go_wp2
   go_loopw [22] (fun v22 wr => ∃ (j : Nat) (dk : List Node), v22 = .int .i64 j ∧ j ≤ ds.length ∧ za0 (killFrom ks dk (ds.drop j) = kr) ∧ za0 (dk.map (·.f0) = ks) ∧ za0 (Kd.R k53 53 wr V2.heap.size (fun _ => True) (.slice A3 n c3) dk) ∧ za0 (Below V2.heap.size V2 wr)) (fun v22 _ => ds.length - (intOf v22).toNat)
   case atStart => exact ⟨0, ll, rfl, Nat.zero_le _, HK, Hks, HR3, HB3⟩
   case round =>
    obtain ⟨j, dk, rfl, hj, HKF, HKS, HO, HW⟩ := hrel
    by_cases hlt : j < ds.length
    ·
     obtain ⟨d, hd⟩ : ∃ d, za0 (ds[j]? = some d) := ⟨_, ⟨List.getElem?_eq_getElem hlt⟩⟩
     obtain ⟨ad, e, h0, h1⟩ := dot_at HRD.out (za5 HB.out HW.out) j d hd.out
     have HDR := za0.mk (show ds.drop j = d :: ds.drop (j + 1) by rw [List.drop_eq_getElem_cons hlt, (List.getElem?_eq_some_iff.1 hd.out).2])
     subst e
     have hdl : dk.length = n := ((Kd.R_reads' HO.out).1).symm
     have HDL := za0.mk hdl
     have HN6 : za0 (n ≤ 1000000) := ⟨by rw [← Hn.out]; exact HL.out.1⟩
     have HX := za0.mk (zal wr (dotC d))
     clear hdl
     go_wp2_with fail
     refine (storefind_call dk A3 n c3 d _ ks HKS.out HKI.out HDL.out HN6.out (Kd.C_below (show Kd.C k53 wr A3 n dk by have := (Kd.R_reads' HO.out).2.2; rwa [HDL.out] at this) (za2 (Below.refl _ wr) (dotC d)))).mono ?_
     rintro e V ⟨rfl, hb⟩
     have HBV := za0.mk (za5 (za2 (Below.refl _ wr) (dotC d)) hb)
     clear hb h0 h1 HX
     obtain ⟨q, Hq⟩ : ∃ q, za0 (posK ks d = q) := ⟨_, ⟨rfl⟩⟩
     obtain ⟨b3, Hb3⟩ : ∃ b, za0 (hasK ks d = b) := ⟨_, ⟨rfl⟩⟩
     rw [Hq.out, Hb3.out]
     cases b3 with
     | false =>
      obtain ⟨rfl, rfl⟩ : r1 = [] ∧ r2 = 9 := by
       have h1 := HKF.out
       rw [HDR.out] at h1
       unfold killFrom at h1
       rw [if_neg (by rw [Hb3.out]; decide)] at h1
       have := HHH.out
       rw [← h1] at this
       cases this
       exact ⟨rfl, rfl⟩
      go_wp2
      go_ret2
      exact ⟨_, rfl, Kd.R_nil _ _ _ _ _, za5 HB.out (za5 HW.out HBV.out)⟩
     | true =>
      have hqn : q < n := by
       have := hasK_lt Hb3.out
       rw [Hq.out, ← HKS.out, List.length_map, HDL.out] at this
       exact this
      obtain ⟨x, hx⟩ : ∃ x, za0 (dk[q]? = some x) := ⟨_, ⟨List.getElem?_eq_getElem (by rw [HDL.out]; exact hqn)⟩⟩
      have HOV := za0.mk (own_more HO.out HBV.out)
      obtain ⟨g, rfl⟩ : ∃ g, A3 = some ⟨g, 0, none⟩ := by
       obtain ⟨g, cap, h1, _⟩ := Kd.R_form HO.out (by rw [HDL.out]; omega)
       cases h1
       exact ⟨g, rfl⟩
      obtain ⟨y0, y1, y2, y3, y4, y5⟩ := row_six HOV.out hx.out
      go_wp2_with fail
      refine (node_Kill.calls x.f0.f0 x.f0.f1 x.f1.f0 x.f1.f1 x.f2 x.f3 _ _ _ _ _ _ V rfl).mono ?_
      rintro e V2' ⟨rfl, hb⟩
      have HBV2 := za0.mk (za5 HBV.out hb)
      have HOW := za0.mk (own_more HOV.out hb)
      clear hb y0 y1 y2 y3 y4 y5
      go_wp2_with (refine wpList_putNode rfl (.tmp 41) (.tmp 40) rfl rfl (deadN x) HOW.out hqn rfl rfl ?_; intro V4 hR4 hg4)
      have HB4 := za0.mk (grown_on hg4 (za5 HW.out HBV2.out) (fun k e => by cases e; exact R_base HO.out _ rfl))
      go_roundw
      case rel => exact ⟨j + 1, dk.set q (deadN x), by go_num, by omega, ⟨by rw [modify_set _ _ _ hx.out, ← Hq.out]; have h1 := HKF.out; rw [HDR.out] at h1; unfold killFrom at h1; rw [if_pos Hb3.out] at h1; exact h1⟩, ⟨by rw [modify_set _ _ _ hx.out, modify_dots]; exact HKS.out⟩, ⟨hR4⟩, HB4⟩
      case measure => simp [intOf]; omega
    ·
     obtain rfl : j = ds.length := by omega
     obtain ⟨rfl, rfl⟩ : r1 = dk ∧ r2 = 0 := by
      have h1 := HKF.out
      rw [List.drop_of_length_le (Nat.le_refl _)] at h1
      unfold killFrom at h1
      have := HHH.out
      rw [← h1] at this
      cases this
      exact ⟨rfl, rfl⟩
     have HO2 := za0.mk (Kd.R_lower HO.out HB.out.size)
     go_wp2
     go_ret2
     exact ⟨_, rfl, HO2.out, za5 HB.out HW.out⟩
end
end Go.Proofs.YtmbndijbpgobeaaGreat.PWalk
end
section
namespace Go.Proofs.YtmbndijbpgobeaaGreat.PWalk
open Go.RowKit Go.Proofs.YtmbndijbpgobeaaGreatW.PrintWords Go.Proofs.YtmbndijbpgobeaaGreatW.PrintLast Go.Proofs.YtmbndijbpgobeaaGreatW.PrintMore
attribute [local go_sem] max2_int max_two
set_option linter.unusedVariables false
set_option linter.unusedSimpArgs false
section
theorem eqA53 (d : Nat) (w : World) (x0 y0 : Int) (x1 y1 : Int) (x2 y2 : Int) (x3 y3 : Int) (x4 y4 : Int) (x5 y5 : Int) :
  (Op.equalIn (d + 3) 53 (.agg #[.int .i64 x0, .int .i64 x1, .int .i64 x2, .int .i64 x3, .int .i64 x4, .int .i32 x5]) (.agg #[.int .i64 y0, .int .i64 y1, .int .i64 y2, .int .i64 y3, .int .i64 y4, .int .i32 y5])).run Tryz.prog w = .ok ((x0 == y0 && (x1 == y1)) && ((x2 == y2 && (x3 == y3)) && (x4 == y4 && (x5 == y5)))) w := by
 refine eqA_of Tryz.underlying53 (by kernel_rfl) ?_
 refine eqf_cons (by rfl) (by go_simp) (by go_simp) (eqA25 (d + 0) w _ _ _ _) ?_
 refine eqf_cons (by rfl) (by go_simp) (by go_simp) (eqA25 (d + 0) w _ _ _ _) ?_
 refine eqf_cons (by rfl) (by go_simp; rfl) (by go_simp; rfl) (by go_simp) ?_
 exact eqf_last (by rfl) (by go_simp; rfl) (by go_simp; rfl) (by go_simp)
end
end Go.Proofs.YtmbndijbpgobeaaGreat.PWalk
end
section
namespace Go.Proofs.YtmbndijbpgobeaaGreat.PWalk
open Go.RowKit Go.Proofs.YtmbndijbpgobeaaGreatW.PrintWords Go.Proofs.YtmbndijbpgobeaaGreatW.PrintLast Go.Proofs.YtmbndijbpgobeaaGreatW.PrintMore
set_option linter.unusedVariables false
set_option linter.unusedSimpArgs false
open Go.Shelf
attribute [local go_sem] Oper.semAt_some
section
theorem box_six {V : World} {g : Nat} {c0 c1 c2 c3 c4 c5 : Value} (h : V.heap[g]? = some (.cells #[c0, c1, c2, c3, c4, c5] 53 (0, 0))) :
  V.cell? ⟨g, 0, none⟩ = some c0 ∧ V.cell? ⟨g, 1, none⟩ = some c1 ∧ V.cell? ⟨g, 2, none⟩ = some c2 ∧ V.cell? ⟨g, 3, none⟩ = some c3 ∧ V.cell? ⟨g, 4, none⟩ = some c4 ∧ V.cell? ⟨g, 5, none⟩ = some c5 :=
 ⟨(za4 h 0).trans rfl, (za4 h 1).trans rfl, (za4 h 2).trans rfl, (za4 h 3).trans rfl, (za4 h 4).trans rfl, (za4 h 5).trans rfl⟩
theorem results_box {fn : Func} {p u : Tmp} (h : fn.results = #[.cell p 53, .tmp u]) (tmps : Array Value) (w : World) (g : Nat) (c0 c1 c2 c3 c4 c5 : Value)
  (hp : tmps.getD p undef = .pointer (some ⟨g, 0, none⟩)) (hg : w.heap[g]? = some (.cells #[c0, c1, c2, c3, c4, c5] 53 (0, 0))) :
  (results fn tmps).run Tryz.prog w = .ok (.tuple #[.agg #[c0, c1, c2, c3, c4, c5], tmps.getD u undef]) w := by
 rw [Go.results_cell_tmp h, hp]
 have h2 := run_loadVar_row (P := Tryz.prog) w g 53 53 #[c0, c1, c2, c3, c4, c5] (0, 0) _ hg Tryz.underlying53 rfl (by kernel_rfl)
 simp [asAddr, h2]
section
variable {ops : Array Oper} {rest : List Oper} {o : Oper} {a : Act} {Q : Exit → Act → World → Prop}
/-- The operation: a node is stored into a box. -/
theorem wpList_boxNode (hgd : o.guard = none) (s x : Operand) (ho : o.op = .store 53 s x) (hd : o.dst = none) {w : World} {g : Nat} {c0 c1 c2 c3 c4 c5 : Value}
  (hg : w.heap[g]? = some (.cells #[c0, c1, c2, c3, c4, c5] 53 (0, 0))) (y : Node) (hs : a.eval s = .pointer (some ⟨g, 0, none⟩)) (hx : a.eval x = vNode y)
  (hk : ∀ w', w'.heap[g]? = some (.cells #[.int .i64 y.f0.f0, .int .i64 y.f0.f1, .int .i64 y.f1.f0, .int .i64 y.f1.f1, .int .i64 y.f2, .int .i32 y.f3] 53 (0, 0)) → w.grownBy w' (some g) → wpList Tryz.prog ops Q rest a w') : wpList Tryz.prog ops Q (o :: rest) a w := by
 obtain ⟨i0, hi0, hz0, hz1, hz2⟩ := info_parts infoN
 refine wpList_store_row hgd 53 s x ho g _ hs hx 53 _ hg (by rw [hi0]; show some i0.size = some 6; rw [hz1]) rfl (Array.all_eq_true_iff_forall_mem.2 (by intro v hv; simp at hv; rcases hv with rfl | rfl | rfl | rfl | rfl | rfl <;> rfl)) ?_
 rw [hd]
 exact hk _ (setRow_at hg _) (setRow_grown w g _)
end
def nodeZ : Node := ⟨⟨0, 0⟩, ⟨0, 0⟩, 0, 0⟩
/-- What two nodes with one dot are together. -/
def mergeN (x y : Node) : Option Node := if x.f1 = y.f1 ∧ x.f2 = y.f2 ∧ (x.f3 = y.f3 ∨ x.f3 = 0 ∨ y.f3 = 0) then some (if y.f3 = 0 then y else x) else none
def mergeV (x y : Node) : Value := match mergeN x y with | some z => .tuple #[vNode z, .int .i64 0] | none => .tuple #[vNode nodeZ, .int .i64 15]
theorem ne_node (x y : Node) : (!(x.f0.f0 == y.f0.f0) || !(x.f0.f1 == y.f0.f1) || (!(x.f1.f0 == y.f1.f0) || !(x.f1.f1 == y.f1.f1) || (!(x.f2 == y.f2) || !(x.f3 == y.f3)))) = decide (x ≠ y) := by
 rw [Bool.eq_iff_iff]
 simp only [Bool.or_eq_true, Bool.not_eq_true', beq_eq_false_iff_ne, decide_eq_true_eq]
 simp only [ne_eq, Node.ext_iff', Dot.ext_iff']
 by_cases a : x.f0.f0 = y.f0.f0 <;> by_cases b : x.f0.f1 = y.f0.f1 <;> by_cases c : x.f1.f0 = y.f1.f0 <;> by_cases d : x.f1.f1 = y.f1.f1 <;> simp [a, b, c, d] <;> omega
theorem merge_cond {x y : Node} {p q da db : Bool} (hd : x.f0 = y.f0) (hp : decide (deadN x ≠ deadN y) = p) (hq : decide (x ≠ y) = q) (ha : (x.f3 == 0) = da) (hb : (y.f3 == 0) = db) :
  ((p || ((q && !da) && !db)) = true → mergeN x y = none) ∧ ((p || ((q && !da) && !db)) = false → mergeN x y = some (if y.f3 = 0 then y else x)) := by
 have e1 : deadN x = deadN y ↔ x.f1 = y.f1 ∧ x.f2 = y.f2 := ⟨fun h => by have := Node.ext_iff'.1 h; exact ⟨this.2.1, this.2.2.1⟩, fun h => Node.ext_iff'.2 ⟨hd, h.1, h.2, rfl⟩⟩
 have e2 : x = y ↔ x.f1 = y.f1 ∧ x.f2 = y.f2 ∧ x.f3 = y.f3 := ⟨fun h => by rw [h]; exact ⟨rfl, rfl, rfl⟩, fun h => Node.ext_iff'.2 ⟨hd, h.1, h.2.1, h.2.2⟩⟩
 subst hp hq ha hb
 unfold mergeN
 simp only [ne_eq, e1, e2, Bool.or_eq_true, Bool.and_eq_true, Bool.not_eq_true', Bool.or_eq_false_iff, decide_eq_true_eq, decide_eq_false_iff_not, beq_eq_false_iff_ne]
 by_cases h1 : x.f1 = y.f1 <;> by_cases h2 : x.f2 = y.f2 <;> by_cases h3 : x.f3 = y.f3 <;> by_cases h4 : x.f3 = 0 <;> by_cases h5 : y.f3 = 0 <;> simp_all
abbrev boxZ : Obj := .cells #[.int .i64 0, .int .i64 0, .int .i64 0, .int .i64 0, .int .i64 0, .int .i32 0] 53 (0, 0)
def mergeInv (W0 : World) (gA gB : Nat) (x y : Node) (p q da db : Bool) (z0 z1 z4 z5 z6 z7 z8 z9 z10 z11 z12 z13 z14 z15 z16 z17 z18 z19 z20 z21 z22 z23 z24 z25 z26 z27 z28 z29 z30 z31 z32 z33 z34 z35 z36 z37 z38 z39 z40 z41 z42 : Value) (L : Array Bool) (ac : Act) (V : World) : Prop := ∃ (l0 l1 l2 l3 l4 l5 l6 l7 l8 l9 l10 l11 l12 l13 l14 l15 l16 l17 l18 l19 l20 : Bool), L = #[l0, l1, l2, l3, l4, l5, l6, l7, l8, l9, l10, l11, l12, l13, l14, l15, l16, l17, l18, l19, l20] ∧ ac = { tmps := #[z0, z1, .pointer (some ⟨gA, 0, none⟩), .pointer (some ⟨gB, 0, none⟩), z4, z5, z6, z7, z8, z9, z10, z11, z12, z13, z14, z15, selv l20 (.bool (p || ((q && !da) && !db))) (z16), selv l0 (vNode x) (z17), selv l1 (vNode (deadN x)) (z18), selv l2 (vNode y) (z19), selv l3 (vNode (deadN y)) (z20), selv l4 (.bool p) (z21), selv l5 (.bool p) (z22), selv l6 (selv p (z23) (vNode x)) (z23), selv l7 (selv p (z24) (vNode y)) (z24), selv l8 (selv p (z25) (.bool q)) (z25), selv l9 (selv p (z26) (.bool q)) (z26), selv l10 (selv p (z27) (selv q (vNode x) (z27))) (z27), selv l11 (selv p (z28) (selv q (.bool da) (z28))) (z28), selv l12 (selv p (z29) (selv q (.bool (!da)) (z29))) (z29), selv l13 (selv p (z30) (.bool (q && !da))) (z30), selv l14 (selv p (z31) (.bool (q && !da))) (z31), selv l15 (selv p (z32) (selv q (selv da (z32) (vNode y)) (z32))) (z32), selv l16 (selv p (z33) (selv q (selv da (z33) (.bool db)) (z33))) (z33), selv l17 (selv p (z34) (selv q (selv da (z34) (.bool (!db))) (z34))) (z34), selv l18 (selv p (z35) (.bool ((q && !da) && !db))) (z35), selv l19 (.bool (p || ((q && !da) && !db))) (z36), z37, z38, z39, z40, z41, z42], defers := [] } ∧ za0 (Below W0.heap.size W0 V)
attribute [local go_sem high] eqA53
set_option maxHeartbeats 4000000 in
set_option maxRecDepth 100000 in
theorem merge_call (x y : Node) (w : World) (hx : nodeOk x = true) (hy : nodeOk y = true) (hd : x.f0 = y.f0) :
  Calls Tryz.prog 85 #[vNode x, vNode y] w fun e w' => e = .returned (mergeV x y) ∧ Below w.heap.size w w' := by
 have HXV := za0.mk (fun W => node_Valid.calls 1 x.f0.f0 x.f0.f1 x.f1.f0 x.f1.f1 x.f2 x.f3 true W (by rw [nodeValid_is, hx]))
 have HYV := za0.mk (fun W => node_Valid.calls 1 y.f0.f0 y.f0.f1 y.f1.f0 y.f1.f1 y.f2 y.f3 true W (by rw [nodeValid_is, hy]))
 have HD := za0.mk hd
 have HB := za0.mk (za2 (za2 (za2 (Below.refl _ w) (boxN x)) (boxN y)) boxZ)
 have HXA := za0.mk (za7 (zal w (boxN x)) ((Gr.alloc (w.alloc (boxN x)) (boxN y)).trans (Gr.alloc _ boxZ)).below)
 have hxb := za7 (zal (w.alloc (boxN x)) (boxN y)) (Gr.alloc ((w.alloc (boxN x)).alloc (boxN y)) boxZ).below
 have hxz := zal ((w.alloc (boxN x)).alloc (boxN y)) boxZ
 rw [show (w.alloc (boxN x)).heap.size = w.heap.size + 1 by simp] at hxb
 rw [show ((w.alloc (boxN x)).alloc (boxN y)).heap.size = w.heap.size + 2 by simp] at hxz
 have HXB := za0.mk hxb
 have HXZ := za0.mk hxz
 obtain ⟨x0, x1, x2, x3, x4, x5⟩ := box_six HXA.out
 clear hx hy hd hxb hxz
 go_enter Tryz.func85, Tryz.ntmps85
 go_wp2_with fail
 clear x0 x1 x2 x3 x4 x5
 refine (HXV.out _).mono ?_
 rintro e V1 ⟨rfl, hb⟩
 have HXA := za0.mk (za7 HXA.out hb)
 have HXB := za0.mk (za7 HXB.out hb)
 have HXZ := za0.mk (za7 HXZ.out hb)
 have HB := za0.mk (za5 HB.out hb)
 clear hb
 obtain ⟨x0, x1, x2, x3, x4, x5⟩ := box_six HXB.out
 go_wp2_with fail
 clear x0 x1 x2 x3 x4 x5
 refine (HYV.out _).mono ?_
 rintro e V2 ⟨rfl, hb⟩
 have HXA := za0.mk (za7 HXA.out hb)
 have HXB := za0.mk (za7 HXB.out hb)
 have HXZ := za0.mk (za7 HXZ.out hb)
 have HB := za0.mk (za5 HB.out hb)
 clear hb HXV HYV
 go_wp2_with fail
 obtain ⟨p, HPD⟩ : ∃ b, za0 (decide (deadN x ≠ deadN y) = b) := ⟨_, ⟨rfl⟩⟩
 obtain ⟨q, HQD⟩ : ∃ b, za0 (decide (x ≠ y) = b) := ⟨_, ⟨rfl⟩⟩
 obtain ⟨da, HDA⟩ : ∃ b, za0 ((x.f3 == 0) = b) := ⟨_, ⟨rfl⟩⟩
 obtain ⟨db, HDB⟩ : ∃ b, za0 ((y.f3 == 0) = b) := ⟨_, ⟨rfl⟩⟩
 have HP := za0.mk ((ne_node (deadN x) (deadN y)).trans HPD.out)
 have HQ := za0.mk ((ne_node x y).trans HQD.out)
 have HMN := za0.mk (merge_cond HD.out HPD.out HQD.out HDA.out HDB.out)
 refine AnyOrder.wp_region (by kernel_rfl) (mergeInv V2.drew w.heap.size (w.heap.size + 1) x y p q da db _ _ _ _ _ _ _ _ _ _ _ _ _ _ _ _ _ _ _ _ _ _ _ _ _ _ _ _ _ _ _ _ _ _ _ _ _ _ _ _ _) ⟨false, false, false, false, false, false, false, false, false, false, false, false, false, false, false, false, false, false, false, false, false, rfl, rfl, ⟨Below.refl _ _⟩⟩ ?step ?last
 case step =>
  rintro L ac V i ⟨l0, l1, l2, l3, l4, l5, l6, l7, l8, l9, l10, l11, l12, l13, l14, l15, l16, l17, l18, l19, l20, rfl, rfl, HF⟩ hi K hK
  rcases AnyOrder.up hi [0, 1, 2, 3, 4, 5, 20, 6, 7, 8, 9, 14, 10, 11, 12, 13, 15, 16, 17, 18, 19] rfl with rfl | rfl | rfl | rfl | rfl | rfl | rfl | rfl | rfl | rfl | rfl | rfl | rfl | rfl | rfl | rfl | rfl | rfl | rfl | rfl | rfl
  all_goals
   replace hi := AnyOrder.first hi rfl
   repeat (obtain ⟨ha, hi⟩ := hi; first | obtain rfl := ha | clear ha)
   clear hi
   try simp only [sel_true, selv_true] at hK ⊢
  ·
   have hx := za7 (zai HXA.out) HF.out
   obtain ⟨x0, x1, x2, x3, x4, x5⟩ := box_six hx
   refine AnyOrder.wpOp_go rfl (by rfl) ?_
   go_wp2_with fail
   exact ⟨_, _, _, _, _, _, _, _, _, _, _, _, _, _, _, _, _, _, _, _, _, rfl, rfl, HF⟩
  ·
   refine AnyOrder.wpOp_go rfl (by rfl) ?_
   go_wp2_with fail
   refine (node_Kill.calls x.f0.f0 x.f0.f1 x.f1.f0 x.f1.f1 x.f2 x.f3 _ _ _ _ _ _ V rfl).mono ?_
   rintro e V' ⟨rfl, hb⟩
   exact hK _ _ ⟨_, _, _, _, _, _, _, _, _, _, _, _, _, _, _, _, _, _, _, _, _, rfl, rfl, ⟨za5 HF.out hb⟩⟩
  ·
   have hx := za7 (zai HXB.out) HF.out
   obtain ⟨x0, x1, x2, x3, x4, x5⟩ := box_six hx
   refine AnyOrder.wpOp_go rfl (by rfl) ?_
   go_wp2_with fail
   exact ⟨_, _, _, _, _, _, _, _, _, _, _, _, _, _, _, _, _, _, _, _, _, rfl, rfl, HF⟩
  ·
   refine AnyOrder.wpOp_go rfl (by rfl) ?_
   go_wp2_with fail
   refine (node_Kill.calls y.f0.f0 y.f0.f1 y.f1.f0 y.f1.f1 y.f2 y.f3 _ _ _ _ _ _ V rfl).mono ?_
   rintro e V' ⟨rfl, hb⟩
   exact hK _ _ ⟨_, _, _, _, _, _, _, _, _, _, _, _, _, _, _, _, _, _, _, _, _, rfl, rfl, ⟨za5 HF.out hb⟩⟩
  ·
   refine AnyOrder.wpOp_go rfl (by rfl) ?_
   go_wp2_with fail
   rw [HP.out]
   exact ⟨_, _, _, _, _, _, _, _, _, _, _, _, _, _, _, _, _, _, _, _, _, rfl, rfl, HF⟩
  iterate 2
   ·
    refine AnyOrder.wpOp_go rfl (by rfl) ?_
    go_wp2_with fail
    exact ⟨_, _, _, _, _, _, _, _, _, _, _, _, _, _, _, _, _, _, _, _, _, rfl, rfl, HF⟩
  ·
   cases p
   ·
    have hx := za7 (zai HXA.out) HF.out
    obtain ⟨x0, x1, x2, x3, x4, x5⟩ := box_six hx
    refine AnyOrder.wpOp_go rfl (by rfl) ?_
    go_wp2_with fail
    exact ⟨_, _, _, _, _, _, _, _, _, _, _, _, _, _, _, _, _, _, _, _, _, rfl, rfl, HF⟩
   ·
    refine AnyOrder.wpOp_out rfl (by rfl) ?_
    exact hK _ _ ⟨_, _, _, _, _, _, _, _, _, _, _, _, _, _, _, _, _, _, _, _, _, rfl, rfl, HF⟩
  ·
   cases p
   ·
    have hx := za7 (zai HXB.out) HF.out
    obtain ⟨x0, x1, x2, x3, x4, x5⟩ := box_six hx
    refine AnyOrder.wpOp_go rfl (by rfl) ?_
    go_wp2_with fail
    exact ⟨_, _, _, _, _, _, _, _, _, _, _, _, _, _, _, _, _, _, _, _, _, rfl, rfl, HF⟩
   ·
    refine AnyOrder.wpOp_out rfl (by rfl) ?_
    exact hK _ _ ⟨_, _, _, _, _, _, _, _, _, _, _, _, _, _, _, _, _, _, _, _, _, rfl, rfl, HF⟩
  ·
   cases p
   ·
    refine AnyOrder.wpOp_go rfl (by rfl) ?_
    go_wp2_with fail
    rw [HQ.out]
    exact ⟨_, _, _, _, _, _, _, _, _, _, _, _, _, _, _, _, _, _, _, _, _, rfl, rfl, HF⟩
   ·
    refine AnyOrder.wpOp_out rfl (by rfl) ?_
    exact hK _ _ ⟨_, _, _, _, _, _, _, _, _, _, _, _, _, _, _, _, _, _, _, _, _, rfl, rfl, HF⟩
  iterate 2
   ·
    cases p
    ·
     refine AnyOrder.wpOp_go rfl (by rfl) ?_
     go_wp2_with fail
     exact ⟨_, _, _, _, _, _, _, _, _, _, _, _, _, _, _, _, _, _, _, _, _, rfl, rfl, HF⟩
    ·
     refine AnyOrder.wpOp_out rfl (by rfl) ?_
     exact hK _ _ ⟨_, _, _, _, _, _, _, _, _, _, _, _, _, _, _, _, _, _, _, _, _, rfl, rfl, HF⟩
  ·
   cases p
   ·
    cases q
    ·
     refine AnyOrder.wpOp_out rfl (by rfl) ?_
     exact hK _ _ ⟨_, _, _, _, _, _, _, _, _, _, _, _, _, _, _, _, _, _, _, _, _, rfl, rfl, HF⟩
    ·
     have hx := za7 (zai HXA.out) HF.out
     obtain ⟨x0, x1, x2, x3, x4, x5⟩ := box_six hx
     refine AnyOrder.wpOp_go rfl (by rfl) ?_
     go_wp2_with fail
     exact ⟨_, _, _, _, _, _, _, _, _, _, _, _, _, _, _, _, _, _, _, _, _, rfl, rfl, HF⟩
   ·
    refine AnyOrder.wpOp_out rfl (by rfl) ?_
    exact hK _ _ ⟨_, _, _, _, _, _, _, _, _, _, _, _, _, _, _, _, _, _, _, _, _, rfl, rfl, HF⟩
  ·
   cases p
   ·
    cases q
    ·
     refine AnyOrder.wpOp_out rfl (by rfl) ?_
     exact hK _ _ ⟨_, _, _, _, _, _, _, _, _, _, _, _, _, _, _, _, _, _, _, _, _, rfl, rfl, HF⟩
    ·
     refine AnyOrder.wpOp_go rfl (by rfl) ?_
     go_wp2_with fail
     refine (node_Dead.calls x.f0.f0 x.f0.f1 x.f1.f0 x.f1.f1 x.f2 x.f3 da V (by unfold node_Dead.f; rw [HDA.out])).mono ?_
     rintro e V' ⟨rfl, hb⟩
     exact hK _ _ ⟨_, _, _, _, _, _, _, _, _, _, _, _, _, _, _, _, _, _, _, _, _, rfl, rfl, ⟨za5 HF.out hb⟩⟩
   ·
    refine AnyOrder.wpOp_out rfl (by rfl) ?_
    exact hK _ _ ⟨_, _, _, _, _, _, _, _, _, _, _, _, _, _, _, _, _, _, _, _, _, rfl, rfl, HF⟩
  ·
   cases p
   ·
    cases q
    ·
     refine AnyOrder.wpOp_out rfl (by rfl) ?_
     exact hK _ _ ⟨_, _, _, _, _, _, _, _, _, _, _, _, _, _, _, _, _, _, _, _, _, rfl, rfl, HF⟩
    ·
     refine AnyOrder.wpOp_go rfl (by rfl) ?_
     go_wp2_with fail
     exact ⟨_, _, _, _, _, _, _, _, _, _, _, _, _, _, _, _, _, _, _, _, _, rfl, rfl, HF⟩
   ·
    refine AnyOrder.wpOp_out rfl (by rfl) ?_
    exact hK _ _ ⟨_, _, _, _, _, _, _, _, _, _, _, _, _, _, _, _, _, _, _, _, _, rfl, rfl, HF⟩
  ·
   cases p
   ·
    cases q
    ·
     refine AnyOrder.wpOp_go rfl (by rfl) ?_
     go_wp2_with fail
     exact ⟨_, _, _, _, _, _, _, _, _, _, _, _, _, _, _, _, _, _, _, _, _, rfl, rfl, HF⟩
    ·
     refine AnyOrder.wpOp_go rfl (by rfl) ?_
     go_wp2_with fail
     exact ⟨_, _, _, _, _, _, _, _, _, _, _, _, _, _, _, _, _, _, _, _, _, rfl, rfl, HF⟩
   ·
    refine AnyOrder.wpOp_out rfl (by rfl) ?_
    exact hK _ _ ⟨_, _, _, _, _, _, _, _, _, _, _, _, _, _, _, _, _, _, _, _, _, rfl, rfl, HF⟩
  ·
   cases p
   ·
    cases q
    ·
     refine AnyOrder.wpOp_out rfl (by rfl) ?_
     exact hK _ _ ⟨_, _, _, _, _, _, _, _, _, _, _, _, _, _, _, _, _, _, _, _, _, rfl, rfl, HF⟩
    ·
     cases da
     ·
      have hx := za7 (zai HXB.out) HF.out
      obtain ⟨x0, x1, x2, x3, x4, x5⟩ := box_six hx
      refine AnyOrder.wpOp_go rfl (by rfl) ?_
      go_wp2_with fail
      exact ⟨_, _, _, _, _, _, _, _, _, _, _, _, _, _, _, _, _, _, _, _, _, rfl, rfl, HF⟩
     ·
      refine AnyOrder.wpOp_out rfl (by rfl) ?_
      exact hK _ _ ⟨_, _, _, _, _, _, _, _, _, _, _, _, _, _, _, _, _, _, _, _, _, rfl, rfl, HF⟩
   ·
    refine AnyOrder.wpOp_out rfl (by rfl) ?_
    exact hK _ _ ⟨_, _, _, _, _, _, _, _, _, _, _, _, _, _, _, _, _, _, _, _, _, rfl, rfl, HF⟩
  ·
   cases p
   ·
    cases q
    ·
     refine AnyOrder.wpOp_out rfl (by rfl) ?_
     exact hK _ _ ⟨_, _, _, _, _, _, _, _, _, _, _, _, _, _, _, _, _, _, _, _, _, rfl, rfl, HF⟩
    ·
     cases da
     ·
      refine AnyOrder.wpOp_go rfl (by rfl) ?_
      go_wp2_with fail
      refine (node_Dead.calls y.f0.f0 y.f0.f1 y.f1.f0 y.f1.f1 y.f2 y.f3 db V (by unfold node_Dead.f; rw [HDB.out])).mono ?_
      rintro e V' ⟨rfl, hb⟩
      exact hK _ _ ⟨_, _, _, _, _, _, _, _, _, _, _, _, _, _, _, _, _, _, _, _, _, rfl, rfl, ⟨za5 HF.out hb⟩⟩
     ·
      refine AnyOrder.wpOp_out rfl (by rfl) ?_
      exact hK _ _ ⟨_, _, _, _, _, _, _, _, _, _, _, _, _, _, _, _, _, _, _, _, _, rfl, rfl, HF⟩
   ·
    refine AnyOrder.wpOp_out rfl (by rfl) ?_
    exact hK _ _ ⟨_, _, _, _, _, _, _, _, _, _, _, _, _, _, _, _, _, _, _, _, _, rfl, rfl, HF⟩
  ·
   cases p
   ·
    cases q
    ·
     refine AnyOrder.wpOp_out rfl (by rfl) ?_
     exact hK _ _ ⟨_, _, _, _, _, _, _, _, _, _, _, _, _, _, _, _, _, _, _, _, _, rfl, rfl, HF⟩
    ·
     cases da
     ·
      refine AnyOrder.wpOp_go rfl (by rfl) ?_
      go_wp2_with fail
      exact ⟨_, _, _, _, _, _, _, _, _, _, _, _, _, _, _, _, _, _, _, _, _, rfl, rfl, HF⟩
     ·
      refine AnyOrder.wpOp_out rfl (by rfl) ?_
      exact hK _ _ ⟨_, _, _, _, _, _, _, _, _, _, _, _, _, _, _, _, _, _, _, _, _, rfl, rfl, HF⟩
   ·
    refine AnyOrder.wpOp_out rfl (by rfl) ?_
    exact hK _ _ ⟨_, _, _, _, _, _, _, _, _, _, _, _, _, _, _, _, _, _, _, _, _, rfl, rfl, HF⟩
  ·
   cases p
   ·
    cases q
    ·
     refine AnyOrder.wpOp_go rfl (by rfl) ?_
     go_wp2_with fail
     exact ⟨_, _, _, _, _, _, _, _, _, _, _, _, _, _, _, _, _, _, _, _, _, rfl, rfl, HF⟩
    ·
     cases da
     ·
      refine AnyOrder.wpOp_go rfl (by rfl) ?_
      go_wp2_with fail
      exact ⟨_, _, _, _, _, _, _, _, _, _, _, _, _, _, _, _, _, _, _, _, _, rfl, rfl, HF⟩
     ·
      refine AnyOrder.wpOp_go rfl (by rfl) ?_
      go_wp2_with fail
      exact ⟨_, _, _, _, _, _, _, _, _, _, _, _, _, _, _, _, _, _, _, _, _, rfl, rfl, HF⟩
   ·
    refine AnyOrder.wpOp_out rfl (by rfl) ?_
    exact hK _ _ ⟨_, _, _, _, _, _, _, _, _, _, _, _, _, _, _, _, _, _, _, _, _, rfl, rfl, HF⟩
  ·
   cases p
   ·
    refine AnyOrder.wpOp_go rfl (by rfl) ?_
    go_wp2_with fail
    exact ⟨_, _, _, _, _, _, _, _, _, _, _, _, _, _, _, _, _, _, _, _, _, rfl, rfl, HF⟩
   ·
    refine AnyOrder.wpOp_go rfl (by rfl) ?_
    go_wp2_with fail
    exact ⟨_, _, _, _, _, _, _, _, _, _, _, _, _, _, _, _, _, _, _, _, _, rfl, rfl, HF⟩
 case last =>
  rintro L ac V ⟨l0, l1, l2, l3, l4, l5, l6, l7, l8, l9, l10, l11, l12, l13, l14, l15, l16, l17, l18, l19, l20, rfl, rfl, HF⟩ hr
  obtain ⟨rfl, rfl, rfl, rfl, rfl, rfl, rfl, rfl, rfl, rfl, rfl, rfl, rfl, rfl, rfl, rfl, rfl, rfl, rfl, rfl, rfl, -⟩ := AnyOrder.alls rfl (by kernel_rfl) hr
  clear hr
  simp only [sel_true, selv_true]
  clear HP HQ
  have HB := za0.mk (za5 HB.out (za5 (za3 (Below.refl _ V2)) HF.out))
  have HXA := za0.mk (za7 (zai HXA.out) HF.out)
  have HXB := za0.mk (za7 (zai HXB.out) HF.out)
  have HXZ := za0.mk (za7 (zai HXZ.out) HF.out)
  clear HF
  cases hs : (p || ((q && !da) && !db)) with
  | true =>
   have HM := za0.mk (HMN.out.1 hs)
   clear hs
   go_wp2_with (refine wpList_boxNode rfl (.tmp 4) (.tmp 37) rfl rfl HXZ.out nodeZ rfl rfl ?_; intro V4 hz4 hg4)
   have HB4 := za0.mk (grown_on hg4 HB.out (fun k e => by cases e; omega))
   have HZ4 := za0.mk hz4
   refine bodyPost_ret (results_box rfl _ _ _ _ _ _ _ _ _ rfl HZ4.out) rfl ?_
   exact ⟨by unfold mergeV; rw [HM.out]; rfl, HB4.out⟩
  | false =>
   have HM := za0.mk (HMN.out.2 hs)
   clear hs
   obtain ⟨x0, x1, x2, x3, x4, x5⟩ := box_six HXB.out
   go_wp2_with fail
   clear x0 x1 x2 x3 x4 x5
   refine (node_Dead.calls y.f0.f0 y.f0.f1 y.f1.f0 y.f1.f1 y.f2 y.f3 db V (by unfold node_Dead.f; rw [HDB.out])).mono ?_
   rintro e V3 ⟨rfl, hb⟩
   have HXA := za0.mk (za7 HXA.out hb)
   have HXB := za0.mk (za7 HXB.out hb)
   have HXZ := za0.mk (za7 HXZ.out hb)
   have HB := za0.mk (za5 HB.out hb)
   clear hb
   cases db with
   | true =>
    obtain ⟨x0, x1, x2, x3, x4, x5⟩ := box_six HXB.out
    go_wp2_with (refine wpList_boxNode rfl (.tmp 4) (.tmp 41) rfl rfl HXZ.out y rfl rfl ?_; intro V4 hz4 hg4)
    have HB4 := za0.mk (grown_on hg4 HB.out (fun k e => by cases e; omega))
    have HZ4 := za0.mk hz4
    refine bodyPost_ret (results_box rfl _ _ _ _ _ _ _ _ _ rfl HZ4.out) rfl ?_
    exact ⟨by unfold mergeV; rw [HM.out, if_pos (beq_iff_eq.1 HDB.out)]; rfl, HB4.out⟩
   | false =>
    obtain ⟨x0, x1, x2, x3, x4, x5⟩ := box_six HXA.out
    go_wp2_with (refine wpList_boxNode rfl (.tmp 4) (.tmp 42) rfl rfl HXZ.out x rfl rfl ?_; intro V4 hz4 hg4)
    have HB4 := za0.mk (grown_on hg4 HB.out (fun k e => by cases e; omega))
    have HZ4 := za0.mk hz4
    refine bodyPost_ret (results_box rfl _ _ _ _ _ _ _ _ _ rfl HZ4.out) rfl ?_
    exact ⟨by unfold mergeV; rw [HM.out, if_neg (beq_eq_false_iff_ne.1 HDB.out)]; rfl, HB4.out⟩
end
section
theorem op_append_rows {T : TypeId} (hT : Tryz.prog.underlying T = some (.slice 53)) {o : Oper} {a : Act} {K : Act → World → Prop} {Q : Exit → Act → World → Prop} {W : World} (base : Nat) (hgd : o.guard = none) (s x : Operand)
  (ho : o.op = .call { callee := .builtin .append, args := #[s, x], argTypes := #[T, T] }) (v : Value) (xs ys : List Node) (A : Option Addr) (m c : Nat) (hs : a.eval s = v) (hx : a.eval x = .slice A m c)
  (hr : RN W base v xs) (hc : Kd.C k53 W A m ys) (hb : base ≤ W.heap.size) (hl : xs.length + m ≤ 1000000)
  (h : ∀ v1 w1, RN w1 base v1 (xs ++ ys) → W.grownBy w1 v.ownBlock → (v1.ownBlock = v.ownBlock ∨ ∃ b, v1.ownBlock = some b ∧ W.heap.size ≤ b) → K (a.put o.dst v1) w1) : o.wp Tryz.prog a W K Q := by
 have hw : Region.wanted o (yielded #[] a.tmps) = true := by simp [Region.wanted, hgd]
 have := Kd.R_append_rows_step (P := Tryz.prog) (ops := #[]) (Q := Q) (Kc := K) k53 (w0 := W) base hw s x T 53 (.agg #[(.int .i64 0), (.int .i64 0), (.int .i64 0), (.int .i64 0), (.int .i64 0), (.int .i32 0)]) 48 ho hT info53 rfl (by decide) (by decide) v xs ys A m c (fun _ => True) (fun _ => False) hs hx hr hc (fun x cs h => (by rw [k53_open h]; exact k53_mkM _ _ _ x)) (fun _ hk => hk.elim) (fun _ _ => trivial) (Below.refl _ _) hb (by omega)
  (fun v1 w1 h1 _ h3 h4 => h v1 w1 h1 h3 h4)
 rwa [if_pos hw] at this
theorem app_rows {T : TypeId} (hT : Tryz.prog.underlying T = some (.slice 53)) {ops : Array Oper} {Q : Exit → Act → World → Prop} {o : Oper} {rest : List Oper} {a : Act} {W : World} (base : Nat) (hgd : o.guard = none) (s x : Operand)
  (ho : o.op = .call { callee := .builtin .append, args := #[s, x], argTypes := #[T, T] }) (v : Value) (xs ys : List Node) (A : Option Addr) (m c : Nat) (hs : a.eval s = v) (hx : a.eval x = .slice A m c)
  (hr : RN W base v xs) (hc : Kd.C k53 W A m ys) (hb : base ≤ W.heap.size) (hl : xs.length + m ≤ 1000000)
  (h : ∀ v1 w1, RN w1 base v1 (xs ++ ys) → W.grownBy w1 v.ownBlock → wpList Tryz.prog ops Q rest (a.put o.dst v1) w1) : wpList Tryz.prog ops Q (o :: rest) a W := by
 refine Kd.R_append_rows k53 (w0 := W) base hgd s x T 53 (.agg #[(.int .i64 0), (.int .i64 0), (.int .i64 0), (.int .i64 0), (.int .i64 0), (.int .i32 0)]) 48 ho hT info53 rfl (by decide) (by decide) v xs ys A m c (fun _ => True) (fun _ => False) hs hx hr hc (fun x cs h => (by rw [k53_open h]; exact k53_mkM _ _ _ x)) (fun _ hk => hk.elim) (fun _ _ => trivial) (Below.refl _ _) hb (by omega) ?_
 intro v1 w1 h1 _ h3 _
 exact h v1 w1 h1 h3
theorem cut_fromT {T : TypeId} (hT : Tryz.prog.underlying T = some (.slice 53)) {A : Option Addr} {n c k : Nat} (hm : k ≤ n) (W : World) : (Instr.sliceAt T (.slice A n c) (some (.int .i64 (k : Int))) none none).run Tryz.prog W = .ok (.slice (if c = k then A else A.map (·.add (k * 6))) (n - k) (c - k)) W := by
 obtain ⟨i, hi, _, hs, _⟩ := info_get infoN
 exact run_sliced hT (cut_from _ _ .i64 hT hi 6 hs A n c (k : Int) (by omega) (by omega) W)
/-- All but the first of a row. -/
theorem tail_row {T : TypeId} (hT : Tryz.prog.underlying T = some (.slice 53)) {w : World} {A : Option Addr} {n c : Nat} {x : Node} {l : List Node} (h : Kd.C k53 w A n (x :: l)) (hc : n ≤ c) :
  ∃ (A' : Option Addr) (c' : Nat), Kd.C k53 w A' l.length l ∧ l.length ≤ c' ∧ ∀ W, (Instr.sliceAt T (.slice A n c) (some (.int .i64 1)) none none).run Tryz.prog W = .ok (.slice A' l.length c') W := by
 have hn : (x :: l).length = n := Kd.C_len h
 have h1 := C_from h hn (k := 1) (by rw [← hn]; simp) hc
 have e : n - 1 = l.length := by rw [← hn]; simp
 rw [e] at h1
 refine ⟨_, c - 1, h1, by omega, fun W => ?_⟩
 have := cut_fromT hT (A := A) (n := n) (c := c) (k := 1) (by rw [← hn]; simp) W
 rw [e] at this
 exact this
/-- A slice of nodes that was laid just now. -/
theorem lit_nodes (W : World) (base : Nat) (hb : base ≤ W.heap.size) (xs : List Node) (n : Nat) (hn : xs.length = n) (hp : 0 < n) (hm : n ≤ 1000000) (cs : Array Value) (hcs : cs.toList = cellsOf xs) :
  Kd.R k53 53 (W.alloc (.cells cs 53 (0, 0))) base (fun _ => True) (.slice (some ⟨W.heap.size, 0, none⟩) n n) xs := by
 subst hn
 have hsz : cs.size = xs.length * 6 := by rw [← Array.length_toList, hcs, cellsOf_length]
 refine R_of_cells ⟨cellsOf_length _, .inr ⟨W.heap.size, xs.length, cs, rfl, hb, zal _ _, Nat.le_refl _, (show xs.length ≤ 9223372036854775807 by omega), hsz, ?_⟩⟩ (fun _ _ => trivial)
 rw [← hcs, List.take_of_length_le (by rw [Array.length_toList]; omega)]
end
end Go.Proofs.YtmbndijbpgobeaaGreat.PWalk
end
