/-
  A store with a further node, the child of a reached one or of the root at a time greater than all others: it follows directly on its parent, and nothing else changes in the order; for every list of nodes, number and dot. Part 6 of 11.
-/
import Derived.Test.YtjlpaagnajmogaaGreatRE
import Derived.Shelf.SlSortCmp.NoneTotal
section
namespace Go.Proofs.YtjlpaagnajmogaaGreat.PWalk
open Go.RowKit Go.Proofs.YtjlpaagnajmogaaGreatW.PrintWords Go.Proofs.YtjlpaagnajmogaaGreatW.PrintLast Go.Proofs.YtjlpaagnajmogaaGreatW.PrintMore
set_option linter.unusedVariables false
set_option linter.unusedSimpArgs false
open Go.Shelf
attribute [local go_sem] Oper.semAt_some
def dotCells (d : Dot) : List Value := [.int .i64 d.f0, .int .i64 d.f1]
def dcellsOf (l : List Dot) : List Value := l.flatMap dotCells
theorem dcellsOf_length (l : List Dot) : (dcellsOf l).length = l.length * 2 := by
 induction l with
 | nil => rfl
 | cons x l ih => rw [dcellsOf, List.flatMap_cons, List.length_append, ← dcellsOf, ih]; simp [dotCells]; omega
theorem dcellsOf_append (l m : List Dot) : dcellsOf (l ++ m) = dcellsOf l ++ dcellsOf m := by simp [dcellsOf]
theorem dcellsOf_drop_take (l : List Dot) (j : Nat) (x : Dot) (h : l[j]? = some x) : ((dcellsOf l).drop (j * 2)).take 2 = dotCells x := by
 induction l generalizing j with
 | nil => simp at h
 | cons y l ih =>
  cases j with
  | zero => simp at h; subst h; simp [dcellsOf, dotCells]
  | succ j =>
   simp at h
   rw [show (j + 1) * 2 = 2 + j * 2 from by omega, dcellsOf, List.flatMap_cons, ← dcellsOf, ← List.drop_drop, List.drop_left' (by simp [dotCells])]
   exact ih j h
theorem dreps_cells {R : Dot → List Value → Prop} (l : List Dot) (hR : ∀ x, R x (dotCells x)) : Reps R 2 l (dcellsOf l) :=
 ⟨dcellsOf_length l, fun j p hj => by rw [dcellsOf_drop_take l j p hj]; exact hR p⟩
theorem dcells_of_reps {R : Dot → List Value → Prop} (l : List Dot) (cs : List Value) (h : Reps R 2 l cs) (hR : ∀ x c, R x c → c = dotCells x) : cs = dcellsOf l := by
 induction l generalizing cs with
 | nil => have := h.1; simp at this; subst this; rfl
 | cons x l ih =>
  obtain ⟨h1, h2⟩ := h
  have h0 := hR _ _ (h2 0 x rfl)
  simp only [Nat.zero_mul, List.drop_zero] at h0
  have ht : Reps R 2 l (cs.drop 2) := ⟨by rw [List.length_drop, h1]; simp; omega, fun j p hj => by
   have := h2 (j + 1) p (by simpa using hj)
   rw [List.drop_drop, show 2 + j * 2 = (j + 1) * 2 from by omega]; exact this⟩
  rw [dcellsOf, List.flatMap_cons, ← dcellsOf, ← ih _ ht, ← h0, List.take_append_drop]
abbrev RD (W : World) (base : Nat) (u : Value) (xs : List Dot) : Prop := Kd.R k24 24 W base (fun _ => True) u xs
theorem RD_of_cells {w : World} {base : Nat} {v : Value} {l : List Dot} (h : w.ownsRow base 24 2 v l.length (dcellsOf l)) : RD w base v l :=
 ⟨fun _ _ => trivial, dcellsOf l, h, dreps_cells l fun x => k24_mkM _ _ _ x⟩
theorem dcells_of_R {w : World} {base : Nat} {ok : Nat → Prop} {v : Value} {l : List Dot} (h : Kd.R k24 24 w base ok v l) : w.ownsRow base 24 2 v l.length (dcellsOf l) := by
 obtain ⟨_, inner, ho, hr⟩ := h
 rw [← dcells_of_reps l inner hr fun x c hx => k24_openM hx]
 exact ho
theorem RD.keep {W V : World} {base : Nat} {u : Value} {xs : List Dot} (h : RD W base u xs) (hk : ∀ g, u.ownBlock = some g → V.heap[g]? = W.heap[g]?) : RD V base u xs := RD_of_cells (ownsRow_keep (dcells_of_R h) hk)
theorem RD.block {W : World} {base : Nat} {u : Value} {xs : List Dot} (h : RD W base u xs) {g : Nat} (hg : u.ownBlock = some g) : base ≤ g ∧ ∃ cur, W.heap[g]? = some (.cells cur 24 (0, 0)) := by
 rcases (dcells_of_R h).2 with ⟨rfl, _⟩ | ⟨g', c, cur, rfl, hb, hcur, _⟩
 ·
  cases hg
 ·
  cases hg; exact ⟨hb, cur, hcur⟩
theorem RD.slice {W : World} {base : Nat} {u : Value} {xs : List Dot} (h : RD W base u xs) : ∃ A c, u = .slice A xs.length c := ownsRow_slice (dcells_of_R h)
theorem RN.slice {W : World} {base : Nat} {u : Value} {xs : List Node} (h : RN W base u xs) : ∃ A c, u = .slice A xs.length c := ownsRow_slice (cells_of_R h)
theorem infoD : (Tryz.prog.info? 24).map (fun i => (i.zero, i.size, i.bytes)) = some (some (.agg #[(.int .i64 0), (.int .i64 0)]), 2, 16) := by kernel_rfl
theorem info_get {P : Program} {t : TypeId} {z : Option Value} {s b : Nat} (h : (P.info? t).map (fun i => (i.zero, i.size, i.bytes)) = some (z, s, b)) : ∃ i, P.info? t = some i ∧ i.zero = z ∧ i.size = s ∧ i.bytes = b := by
 rcases hi : P.info? t with _ | i
 ·
  rw [hi] at h; cases h
 ·
  rw [hi] at h
  simp only [Option.map_some, Option.some.injEq, Prod.mk.injEq] at h
  exact ⟨i, rfl, h⟩
theorem run_append_node (base : Nat) (ty : TypeId) (u : Value) (xs : List Node) (x : Node) (g c : Nat) (w : World) (hu : RN w base u xs) (hg : w.heap[g]? = some (boxN x)) (hb : base ≤ w.heap.size) (hl : xs.length + 1 ≤ 1000001) :
  ∃ u' w', (Builtin.append_ #[22, 22] ty #[u, .slice (some ⟨g, 0, none⟩) 1 c]).run Tryz.prog w = .ok u' w' ∧ RN w' base u' (xs ++ [x]) ∧ w.grownBy w' u.ownBlock ∧ (u'.ownBlock = u.ownBlock ∨ u'.ownBlock = some w.heap.size) := by
 obtain ⟨i, hi, hz1, hz2, hz3⟩ := info_get infoN
 obtain ⟨v', w', h1, h2, h3, _, h4⟩ := run_append_own_at (P := Tryz.prog) w base 22 ty 35 i _ 6 48 Tryz.underlying22 hi hz1 hz2 hz3 rfl (by decide) u xs.length (cellsOf xs) (cells_of_R hu) ⟨g, 0, none⟩ 1 c (nodeCells x) rfl
  (fun j v hv => by rw [add_lit, blk_cell hg, Nat.zero_add, List.getElem?_toArray]; exact hv) (fun v hv => one_cells [x] v (by simpa [cellsOf] using hv)) (by simp only [maxLen]; omega) (by omega) hb
 refine ⟨v', w', h1, R_of_cells ?_ (fun _ _ => trivial), h3, h4⟩
 rw [cellsOf_append, List.length_append, show cellsOf [x] = nodeCells x by simp [cellsOf]]
 exact h2
theorem run_append_dot (base : Nat) (ty : TypeId) (u : Value) (xs : List Dot) (x : Dot) (g c : Nat) (w : World) (hu : RD w base u xs) (hg : w.heap[g]? = some (dotC x)) (hb : base ≤ w.heap.size) (hl : xs.length + 1 ≤ 1000001) :
  ∃ u' w', (Builtin.append_ #[41, 41] ty #[u, .slice (some ⟨g, 0, none⟩) 1 c]).run Tryz.prog w = .ok u' w' ∧ RD w' base u' (xs ++ [x]) ∧ w.grownBy w' u.ownBlock ∧ (u'.ownBlock = u.ownBlock ∨ u'.ownBlock = some w.heap.size) := by
 obtain ⟨i, hi, hz1, hz2, hz3⟩ := info_get infoD
 obtain ⟨v', w', h1, h2, h3, _, h4⟩ := run_append_own_at (P := Tryz.prog) w base 41 ty 24 i _ 2 16 Tryz.underlying41 hi hz1 hz2 hz3 rfl (by decide) u xs.length (dcellsOf xs) (dcells_of_R hu) ⟨g, 0, none⟩ 1 c (dotCells x) rfl
  (fun j v hv => by rw [add_lit, blk_cell hg, Nat.zero_add, List.getElem?_toArray]; exact hv) (fun v hv => by simp [dotCells] at hv; rcases hv with rfl | rfl <;> rfl) (by simp only [maxLen]; omega) (by omega) hb
 refine ⟨v', w', h1, RD_of_cells ?_, h3, h4⟩
 rw [dcellsOf_append, List.length_append, show dcellsOf [x] = dotCells x by simp [dcellsOf]]
 exact h2
def nds (L : List (Nat × Node)) : List Node := L.map (fun p => p.2)
abbrev outN (u : Value) : Obj := .cells #[u] 22 (0, 0)
theorem far_setCell {W : World} {O : Nat} {i j : Nat} {v : Value} (h : j ≠ O) : (W.setCell ⟨O, i, none⟩ v).heap[j]? = W.heap[j]? := Below.heap_setCell W _ _ j h
/-- The nodes that come, put into one row. -/
structure CollN (w : World) (b O : Nat) (xs : List Node) (W : World) : Prop where
 out : ∃ u, W.heap[O]? = some (outN u) ∧ RN W b u xs
 below : Below w.heap.size w W
theorem CollN.mv {w : World} {b c O : Nat} {xs : List Node} {W V : World} (h : CollN w b O xs W) (hm : ListRange.Mv ownT c W V) (hc : w.heap.size ≤ c) : CollN w b O xs V := by
 obtain ⟨⟨u, h1, h2⟩, h3⟩ := h
 exact ⟨⟨u, hm.far h1 (by decide), h2.keep fun g hg => by
  obtain ⟨_, cur, hcur⟩ := h2.block hg
  exact (hm.far hcur (by decide)).trans hcur.symm⟩, hm.on h3 hc⟩
theorem CollN.walk {w : World} {b O : Nat} {xs : List Node} {W V : World} (h : CollN w b O xs W) {row : Option Nat} (hg : W.grownBy V row) (hr : ∀ r, row = some r → w.heap.size ≤ r ∧ ∃ o : Obj, W.heap[r]? = some o ∧ o.isCells = false) : CollN w b O xs V := by
 obtain ⟨⟨u, h1, h2⟩, h3⟩ := h
 have hnc : ∀ q cells t, W.heap[q]? = some (Obj.cells cells t (0, 0)) → V.heap[q]? = some (Obj.cells cells t (0, 0)) := fun q cells t hq => (hg.block q (blk_lt hq) (fun e => by obtain ⟨_, o, ho, hc⟩ := hr q e.symm; rw [hq] at ho; cases ho; cases hc)).trans hq
 exact ⟨⟨u, hnc O _ _ h1, h2.keep fun g hgg => by obtain ⟨_, cur, hcur⟩ := h2.block hgg; exact (hnc _ _ _ hcur).trans hcur.symm⟩, h3.grown hg h3.size (fun k e => (hr k e).1)⟩
theorem CollN.more {w : World} {b O : Nat} {xs : List Node} {W V : World} (h : CollN w b O xs W) (hb : Below W.heap.size W V) : CollN w b O xs V := by
 obtain ⟨⟨u, h1, h2⟩, h3⟩ := h
 exact ⟨⟨u, blk_keep h1 hb, h2.below' hb⟩, below_more h3 hb⟩
/-- The end of a round: the box is stored. -/
theorem CollN.put {w : World} {n₀ O : Nat} {xs ys : List Node} {W1 V V2 : World} {u u2 : Value} (hn : w.heap.size ≤ n₀) (hOl : w.heap.size ≤ O) (h1 : W1.heap[O]? = some (outN u)) (h2 : RN W1 n₀ u xs) (h3 : Below w.heap.size w W1)
  (hV : Gr W1 V) (hg : V.grownBy V2 u.ownBlock) (hr : RN V2 n₀ u2 ys) (hat : u2.ownBlock = u.ownBlock ∨ u2.ownBlock = some V.heap.size) (hnW : n₀ ≤ W1.heap.size) :
  KeepsFrom n₀ W1 (V2.setCell ⟨O, 0, none⟩ u2) ∧ KpT n₀ (fun i => i = O) W1 (V2.setCell ⟨O, 0, none⟩ u2) ∧ CollN w n₀ O ys (V2.setCell ⟨O, 0, none⟩ u2) := by
 have hOne : some O ≠ u.ownBlock := fun e => by
  obtain ⟨_, cur, hc⟩ := h2.block e.symm
  rw [h1] at hc
  exact absurd (Obj.cells.inj (Option.some.inj hc)).2.1 (by decide)
 have hO2 : V2.heap[O]? = some (outN u) := (hg.block O (Nat.lt_of_lt_of_le (blk_lt h1) hV.below.size) hOne).trans (hV.blk h1)
 have hsz : W1.heap.size ≤ V2.heap.size := Nat.le_trans hV.below.size hg.size
 have hkeep : ∀ q, q < W1.heap.size → q ≠ O → u.ownBlock ≠ some q → (V2.setCell ⟨O, 0, none⟩ u2).heap[q]? = W1.heap[q]? := fun q hq h4 h5 => by
  rw [far_setCell h4, hg.block q (Nat.lt_of_lt_of_le hq hV.below.size) (fun e => h5 e.symm)]
  exact hV.below.block q hq
 have hnr : ∀ q o, W1.heap[q]? = some o → (∀ c, o ≠ .cells c 35 (0, 0)) → u.ownBlock ≠ some q := fun q o hq ho e => by
  obtain ⟨_, cur, hc⟩ := h2.block e
  rw [hq] at hc
  exact ho _ (Option.some.inj hc)
 have hno : ∀ q o, W1.heap[q]? = some o → (∀ c, o ≠ .cells c 22 (0, 0)) → q ≠ O := fun q o hq ho e => by
  subst e
  rw [h1] at hq
  exact ho _ (Option.some.inj hq).symm
 refine ⟨⟨by rw [World.size_setCell]; exact hsz, fun q o hB hq hoc => (hkeep q (blk_lt hq) (hno q o hq fun c e => by subst e; cases hoc) (hnr q o hq fun c e => by subst e; cases hoc)).trans hq⟩,
  ⟨⟨by rw [World.size_setCell]; exact hsz, fun q hq hE => hkeep q (Nat.lt_of_lt_of_le hq hnW) hE (fun e => by have := (h2.block e).1; omega)⟩, fun q c t hq ht => (hkeep q (blk_lt hq) (hno q _ hq fun c' e => by cases e; revert ht; decide) (hnr q _ hq fun c' e => by cases e; revert ht; decide)).trans hq⟩,
  ⟨u2, blk_set hO2 0 _, hr.keep fun g hgg => far_setCell fun e => ?_⟩, ?_⟩
 ·
  subst e
  obtain ⟨_, cur, hc⟩ := hr.block hgg
  rw [hO2] at hc
  exact absurd (Obj.cells.inj (Option.some.inj hc)).2.1 (by decide)
 ·
  exact below_setCell ((below_more h3 hV.below).grown hg (below_more h3 hV.below).size (fun k e => Nat.le_trans hn (h2.block e).1)) hOl 0 u2
set_option maxHeartbeats 2000000 in
set_option maxRecDepth 100000 in
theorem walk_Order.calls (A0 : Option Addr) (c0 : Nat) (ll : List Node) (r0 : List Node) (r1 : Int) (w : World) (hr0 : Kd.C k35 w A0 ll.length ll) (hc0 : ll.length ≤ c0) (h : walk_Order.f ll = some (r0, r1)) :
  Calls Tryz.prog 50 #[.slice A0 ll.length c0] w fun e w' => ∃ v0_ : Value, e = .returned (.tuple #[v0_, .int .i64 r1]) ∧ Kd.R k35 35 w' w.heap.size (fun _ => True) v0_ r0 ∧ Below w.heap.size w w' := by
 unfold walk_Order.f at h
 by_cases hl : ll.length ≤ 1000000
 rotate_left
 ·
  rw [if_neg hl] at h; cases h
 rw [if_pos hl] at h
 have HR := Aside0.mk hr0
 have HC := Aside0.mk hc0
 have HL := Aside0.mk hl
 have HH := Aside0.mk (Option.some.inj h)
 clear h hr0 hc0 hl
 obtain ⟨n, Hn⟩ : ∃ n, Aside0 (ll.length = n) := ⟨_, ⟨rfl⟩⟩
 obtain ⟨b, Hb⟩ : ∃ b, Aside0 (storeOk ll = b) := ⟨_, ⟨rfl⟩⟩
 have hval := store_Valid.calls A0 c0 ll b w HR.out HC.out (by unfold store_Valid.f; rw [if_pos HL.out, Hb.out])
 rw [Hn.out] at hval ⊢
 have HV := Aside0.mk hval
 clear hval
 refine calls_of_wp_m Tryz.func50 rfl ?_
 simp only [Tryz.ntmps50, List.size_toArray, List.length_cons, List.length_nil, Nat.reduceAdd, Nat.reduceSub, Array.replicate_succ, Array.replicate_zero, List.push_toArray, List.append_toArray, List.nil_append, List.cons_append]
 go_wp2_with fail
 refine HV.out.mono ?_
 rintro e w1 ⟨rfl, hb⟩
 have HB := Aside0.mk hb
 clear hb HV
 cases b with
 | false =>
  have hrr : r0 = [] ∧ r1 = 2 := by
   have := HH.out
   rw [if_neg (by rw [Hb.out]; simp)] at this
   exact ⟨(Prod.mk.inj this).1.symm, (Prod.mk.inj this).2.symm⟩
  obtain ⟨rfl, rfl⟩ := hrr
  go_wp2
  exact ⟨_, results_tmp2 rfl _ _ _, _, rfl, Kd.R_nil _ _ _ _ _, HB.out⟩
 | true =>
  have hrr : r0 = nds (ordOf ll) ∧ r1 = 0 := by
   have := HH.out
   rw [if_pos Hb.out] at this
   exact ⟨(Prod.mk.inj this).1.symm, (Prod.mk.inj this).2.symm⟩
  obtain ⟨rfl, rfl⟩ := hrr
  have hO := blk_new w1 (outN (.slice none 0 0))
  have HAF := Aside0.mk (all_fn A0 n c0 ll (w1.alloc (outN (.slice none 0 0))) Hn.out (by rw [← Hn.out]; exact Kd.C_below HR.out (below_alloc HB.out _)) (by rw [← Hn.out]; exact HC.out) HL.out)
  have HO := Aside0.mk hO
  clear hO
  go_wp2_with fail
  refine HAF.out.mono ?_
  rintro e w2 ⟨Fb, mp, rfl, hF, hfam, hb⟩
  rw [if_pos Hb.out] at hfam
  have HO2 := Aside0.mk (blk_keep HO.out hb)
  have HF2 := Aside0.mk hF
  have HFM := Aside0.mk hfam
  have HB2 := Aside0.mk (below_more (below_alloc HB.out _) hb)
  have HOW : Aside0 (w.heap.size ≤ w1.heap.size ∧ w1.heap.size < w2.heap.size) := ⟨HB.out.size, blk_lt HO2.out⟩
  clear hF hfam hb HO HAF HB
  obtain ⟨O, HOe⟩ : ∃ O, Aside0 (w1.heap.size = O) := ⟨_, ⟨rfl⟩⟩
  rw [HOe.out] at HO2 HOW ⊢
  go_wp2_with fail
  have HS : Aside0 (Store ll) := ⟨store_of Hb.out⟩
  refine wpIn_wide.1 (ListRange.wpIn_move (n := 10) (F := Fence.wide) rfl (by decide) (gf := 114) (lb := #[.pointer (some ⟨Fb, 0, none⟩)]) rfl trivial Tryz.call114
   (encs := fun x : Nat × Node => #[.int .i64 (x.1 : Int), vNode x.2]) (Kp := KpT w2.heap.size (fun i => i = O)) (L := ordOf ll) (w0 := w2) ownT
   (all_moves _ mp Fb (fun i => i = O) ll w2 HS.out HL.out HF2.out HFM.out (fun i c t e hc => by subst e; rw [HO2.out] at hc; cases hc; exact .inl rfl))
   (fun h k => h.trans k) (fun W l o o' hl ho hc _ => KpT.put (Nat.le_refl _) W l o o' hl ho hc) (Below.refl _ _) (fun _ => rfl)
   (fun k W => CollN w w2.heap.size O (nds ((ordOf ll).take k)) W ∧ w2.heap.size ≤ W.heap.size)
   (fun _ _ _ => False)
   (fun k W W' row hs hg hr => ⟨hs.1.walk hg (fun r e => ⟨Nat.le_trans HB2.out.size (hr r e).1, (hr r e).2⟩), Nat.le_trans hs.2 hg.size⟩) (fun _ _ _ _ _ hs _ _ => hs)
   (fun k A B hm hs => ⟨hs.1.mv hm HB2.out.size, Nat.le_trans hs.2 hm.size⟩) (fun _ _ _ _ _ hs => hs)
   ⟨⟨⟨_, HO2.out, Kd.R_nil _ _ _ _ _⟩, HB2.out⟩, Nat.le_refl _⟩
   (fun x a' W => ∃ Nb, w2.heap.size ≤ Nb ∧ W.heap[Nb]? = some (boxN x.2) ∧ a' = { tmps := #[.slice A0 n c0, undef, .slice none 0 0, .int .i64 0, .pointer (some ⟨O, 0, none⟩), undef, .pointer (some ⟨Nb, 0, none⟩), .slice A0 n c0, .bool true, .bool false, .slice A0 n c0, .func (.func 114) #[] #[.pointer (some ⟨Fb, 0, none⟩)], .int .i64 (x.1 : Int), vNode x.2, undef, undef, undef, undef, undef], defers := [] })
   (fun x a' _ W W' row hs hg hr => by
    obtain ⟨Nb, h1, h2, h3⟩ := hs
    exact ⟨Nb, h1, (hg.block Nb (blk_lt h2) (fun e => by obtain ⟨_, o, ho, hc⟩ := hr Nb e.symm; rw [h2] at ho; cases ho; cases hc)).trans h2, h3⟩)
   ?assign ?body ?done ?stop)
  case assign =>
   rintro lp k x W K hx ⟨h1, h2⟩ hK
   gi_wp2
   exact hK _ _ ((KeepsOthers.alloc _ _).from _) (KpT.below (Gr.alloc W _).below h2) ⟨h1.more (Gr.alloc W _).below, Nat.le_trans h2 (by rw [World.size_alloc]; omega)⟩ ⟨W.heap.size, h2, blk_new _ _, rfl⟩
  case body =>
   rintro lp k x a' W hx hl2 ⟨rr, hrr⟩ ⟨⟨⟨u, h1, h2⟩, h3⟩, h4⟩ ⟨Nb, hx1, hx2, rfl⟩
   have hlen : (nds ((ordOf ll).take k)).length ≤ 1000000 := by unfold nds; rw [List.length_map, List.length_take]; exact Nat.le_trans (Nat.min_le_right _ _) (Nat.le_trans (ord_le HS.out) HL.out)
   obtain ⟨u2, w3, hrun, hrd, hgr, hat⟩ := run_append_node w2.heap.size 22 u _ x.2 W.heap.size 1 (W.alloc (boxN x.2)) (h2.below' (Gr.alloc W _).below) (blk_new _ _) (Nat.le_trans h4 (by rw [World.size_alloc]; omega)) (by omega)
   have hput := CollN.put HB2.out.size (Nat.le_trans HOW.out.1 (Nat.le_refl _)) h1 h2 h3 (Gr.alloc W _) hgr hrd hat h4
   have hO3 : w3.heap[O]? = some (outN u) := (hgr.block O (Nat.lt_of_lt_of_le (blk_lt h1) (Gr.alloc W (boxN x.2)).below.size) (fun e => by
    obtain ⟨_, cur, hc⟩ := h2.block e.symm
    rw [h1] at hc
    exact absurd (Obj.cells.inj (Option.some.inj hc)).2.1 (by decide))).trans (blk_alloc h1 _)
   have HTK : Aside0 (nds ((ordOf ll).take (k + 1)) = nds ((ordOf ll).take k) ++ [x.2]) := ⟨by
    have hk := (List.getElem?_eq_some_iff.1 hx).1
    unfold nds
    rw [List.take_succ_eq_append_getElem hk, (List.getElem?_eq_some_iff.1 hx).2, List.map_append]; rfl⟩
   obtain ⟨A, c, rfl⟩ := h2.slice
   obtain ⟨A2, c2, rfl⟩ := hrd.slice
   obtain ⟨m, hm⟩ : ∃ m, (nds ((ordOf ll).take k)).length = m := ⟨_, rfl⟩
   obtain ⟨m2, hm2⟩ : ∃ m2, (nds ((ordOf ll).take k) ++ [x.2]).length = m2 := ⟨_, rfl⟩
   rw [hm] at h1 h2 hrun hgr hat hO3
   rw [hm2] at hrun hrd hat hput
   clear hm hm2
   have cO : W.cell? ⟨O, 0, none⟩ = _ := (blk_cell h1 0).trans rfl
   have n0 : W.cell? ⟨Nb, 0, none⟩ = _ := (blk_cell hx2 0).trans rfl
   have n1 : W.cell? ⟨Nb, 1, none⟩ = _ := (blk_cell hx2 1).trans rfl
   have n2 : W.cell? ⟨Nb, 2, none⟩ = _ := (blk_cell hx2 2).trans rfl
   have n3 : W.cell? ⟨Nb, 3, none⟩ = _ := (blk_cell hx2 3).trans rfl
   have n4 : W.cell? ⟨Nb, 4, none⟩ = _ := (blk_cell hx2 4).trans rfl
   have n5 : W.cell? ⟨Nb, 5, none⟩ = _ := (blk_cell hx2 5).trans rfl
   have cO3 : w3.cell? ⟨O, 0, none⟩ = _ := (blk_cell hO3 0).trans rfl
   have fO3 := blk_frozen hO3 0
   have HRUN := Aside0.mk hrun
   have HPUT := Aside0.mk hput
   have HSZ3 : Aside0 (w2.heap.size ≤ w3.heap.size) := ⟨Nat.le_trans (Nat.le_trans h4 (Gr.alloc W (boxN x.2)).below.size) hgr.size⟩
   clear h1 h2 h3 h4 hx hx1 hx2 hrun hrd hgr hat hput hO3 hlen
   obtain ⟨x0, x1⟩ := x
   dsimp only at n0 n1 n2 n3 n4 n5 ⊢
   gi_wp2_with (gi_at_builtin; refine wpListIn_append_eq rfl (.tmp 14) (.tmp 16) 22 rfl rfl rfl HRUN.out ?_)
   exact ⟨HPUT.out.1, HPUT.out.2.1, by rw [HTK.out]; exact HPUT.out.2.2, by rw [World.size_setCell]; exact HSZ3.out⟩
  case done =>
   rintro D W hD ⟨h1, h2⟩ hDK
   rw [List.take_length] at h1
   obtain ⟨⟨u, hO, hr⟩, hbl⟩ := h1
   obtain ⟨A, c, rfl⟩ := hr.slice
   obtain ⟨m, hm⟩ : ∃ m, (nds (ordOf ll)).length = m := ⟨_, rfl⟩
   rw [hm] at hO hr
   clear hm
   have cO : W.cell? ⟨O, 0, none⟩ = _ := (blk_cell hO 0).trans rfl
   have HEND : Aside0 (RN W w.heap.size (.slice A m c) (nds (ordOf ll)) ∧ Below w.heap.size w W ∧ W.heap[D]? = some (.deferred (some [])) ∧ w.heap.size ≤ D) := ⟨Kd.R_lower hr HB2.out.size, hbl, hDK, Nat.le_trans HB2.out.size hD⟩
   clear hO hr hbl hDK hD h2
   go_wp2
   refine leaves_of_marks2 (n0 := w.heap.size) [mkMark D] _ ⟨[D], rfl, by simp, fun E hE => ?_⟩ (fun W' hm => ⟨_, results_tmp2 rfl _ _ W', _, rfl, R_onlyMarks HEND.out.1 hm, below_onlyMarks HEND.out.2.1 hm⟩)
   simp only [List.mem_singleton] at hE
   subst hE
   exact ⟨HEND.out.2.2.2, HEND.out.2.2.1⟩
  case stop =>
   rintro D c k W _ _ h _
   exact h.elim
abbrev outD (u : Value) : Obj := .cells #[u] 41 (0, 0)
def dts (L : List (Nat × Node)) : List Dot := L.map (fun p => p.2.f0)
theorem RD.below' {W V : World} {base : Nat} {u : Value} {xs : List Dot} (h : RD W base u xs) (hb : Below W.heap.size W V) : RD V base u xs := Kd.R_below h hb
/-- The dots that come, put into one row. -/
structure CollD (w : World) (b O : Nat) (xs : List Dot) (W : World) : Prop where
 out : ∃ u, W.heap[O]? = some (outD u) ∧ RD W b u xs
 below : Below w.heap.size w W
theorem CollD.mv {w : World} {b c O : Nat} {xs : List Dot} {W V : World} (h : CollD w b O xs W) (hm : ListRange.Mv ownT c W V) (hc : w.heap.size ≤ c) : CollD w b O xs V := by
 obtain ⟨⟨u, h1, h2⟩, h3⟩ := h
 exact ⟨⟨u, hm.far h1 (by decide), h2.keep fun g hg => by
  obtain ⟨_, cur, hcur⟩ := h2.block hg
  exact (hm.far hcur (by decide)).trans hcur.symm⟩, hm.on h3 hc⟩
theorem CollD.walk {w : World} {b O : Nat} {xs : List Dot} {W V : World} (h : CollD w b O xs W) {row : Option Nat} (hg : W.grownBy V row) (hr : ∀ r, row = some r → w.heap.size ≤ r ∧ ∃ o : Obj, W.heap[r]? = some o ∧ o.isCells = false) : CollD w b O xs V := by
 obtain ⟨⟨u, h1, h2⟩, h3⟩ := h
 have hnc : ∀ q cells t, W.heap[q]? = some (Obj.cells cells t (0, 0)) → V.heap[q]? = some (Obj.cells cells t (0, 0)) := fun q cells t hq => (hg.block q (blk_lt hq) (fun e => by obtain ⟨_, o, ho, hc⟩ := hr q e.symm; rw [hq] at ho; cases ho; cases hc)).trans hq
 exact ⟨⟨u, hnc O _ _ h1, h2.keep fun g hgg => by obtain ⟨_, cur, hcur⟩ := h2.block hgg; exact (hnc _ _ _ hcur).trans hcur.symm⟩, h3.grown hg h3.size (fun k e => (hr k e).1)⟩
theorem CollD.more {w : World} {b O : Nat} {xs : List Dot} {W V : World} (h : CollD w b O xs W) (hb : Below W.heap.size W V) : CollD w b O xs V := by
 obtain ⟨⟨u, h1, h2⟩, h3⟩ := h
 exact ⟨⟨u, blk_keep h1 hb, RD.below' h2 hb⟩, below_more h3 hb⟩
/-- The end of a round: the box is stored. -/
theorem CollD.put {w : World} {n₀ O : Nat} {xs ys : List Dot} {W1 V V2 : World} {u u2 : Value} (hn : w.heap.size ≤ n₀) (hOl : w.heap.size ≤ O) (h1 : W1.heap[O]? = some (outD u)) (h2 : RD W1 n₀ u xs) (h3 : Below w.heap.size w W1)
  (hV : Gr W1 V) (hg : V.grownBy V2 u.ownBlock) (hr : RD V2 n₀ u2 ys) (hat : u2.ownBlock = u.ownBlock ∨ u2.ownBlock = some V.heap.size) (hnW : n₀ ≤ W1.heap.size) :
  KeepsFrom n₀ W1 (V2.setCell ⟨O, 0, none⟩ u2) ∧ KpT n₀ (fun i => i = O) W1 (V2.setCell ⟨O, 0, none⟩ u2) ∧ CollD w n₀ O ys (V2.setCell ⟨O, 0, none⟩ u2) := by
 have hOne : some O ≠ u.ownBlock := fun e => by
  obtain ⟨_, cur, hc⟩ := h2.block e.symm
  rw [h1] at hc
  exact absurd (Obj.cells.inj (Option.some.inj hc)).2.1 (by decide)
 have hO2 : V2.heap[O]? = some (outD u) := (hg.block O (Nat.lt_of_lt_of_le (blk_lt h1) hV.below.size) hOne).trans (hV.blk h1)
 have hsz : W1.heap.size ≤ V2.heap.size := Nat.le_trans hV.below.size hg.size
 have hkeep : ∀ q, q < W1.heap.size → q ≠ O → u.ownBlock ≠ some q → (V2.setCell ⟨O, 0, none⟩ u2).heap[q]? = W1.heap[q]? := fun q hq h4 h5 => by
  rw [far_setCell h4, hg.block q (Nat.lt_of_lt_of_le hq hV.below.size) (fun e => h5 e.symm)]
  exact hV.below.block q hq
 have hnr : ∀ q o, W1.heap[q]? = some o → (∀ c, o ≠ .cells c 24 (0, 0)) → u.ownBlock ≠ some q := fun q o hq ho e => by
  obtain ⟨_, cur, hc⟩ := h2.block e
  rw [hq] at hc
  exact ho _ (Option.some.inj hc)
 have hno : ∀ q o, W1.heap[q]? = some o → (∀ c, o ≠ .cells c 41 (0, 0)) → q ≠ O := fun q o hq ho e => by
  subst e
  rw [h1] at hq
  exact ho _ (Option.some.inj hq).symm
 refine ⟨⟨by rw [World.size_setCell]; exact hsz, fun q o hB hq hoc => (hkeep q (blk_lt hq) (hno q o hq fun c e => by subst e; cases hoc) (hnr q o hq fun c e => by subst e; cases hoc)).trans hq⟩,
  ⟨⟨by rw [World.size_setCell]; exact hsz, fun q hq hE => hkeep q (Nat.lt_of_lt_of_le hq hnW) hE (fun e => by have := (h2.block e).1; omega)⟩, fun q c t hq ht => (hkeep q (blk_lt hq) (hno q _ hq fun c' e => by cases e; revert ht; decide) (hnr q _ hq fun c' e => by cases e; revert ht; decide)).trans hq⟩,
  ⟨u2, blk_set hO2 0 _, hr.keep fun g hgg => far_setCell fun e => ?_⟩, ?_⟩
 ·
  subst e
  obtain ⟨_, cur, hc⟩ := hr.block hgg
  rw [hO2] at hc
  exact absurd (Obj.cells.inj (Option.some.inj hc)).2.1 (by decide)
 ·
  exact below_setCell ((below_more h3 hV.below).grown hg (below_more h3 hV.below).size (fun k e => Nat.le_trans hn (h2.block e).1)) hOl 0 u2
set_option maxHeartbeats 2000000 in
set_option maxRecDepth 100000 in
theorem reached_call (A0 : Option Addr) (n c0 : Nat) (ll : List Node) (w : World) (hn : ll.length = n) (hr0 : Kd.C k35 w A0 n ll) (hc0 : n ≤ c0) (hl : ll.length ≤ 1000000) (hs : Store ll) (hok : storeOk ll = true) :
  Calls Tryz.prog 93 #[.slice A0 n c0] w fun e w' => ∃ v0_ : Value, e = .returned v0_ ∧ RD w' w.heap.size v0_ (dts (ordOf ll)) ∧ Below w.heap.size w w' := by
 have HL := Aside0.mk hl
 have HS := Aside0.mk hs
 have hO := blk_new w (outD (.slice none 0 0))
 have HAF := Aside0.mk (all_fn A0 n c0 ll (w.alloc (outD (.slice none 0 0))) hn (Kd.C_below hr0 (below_alloc (Below.refl _ _) _)) hc0 hl)
 have HO := Aside0.mk hO
 have HOK := Aside0.mk hok
 clear hO hr0 hc0 hl hn hs hok
 refine calls_of_wp_m Tryz.func93 rfl ?_
 simp only [Tryz.ntmps93, List.size_toArray, List.length_cons, List.length_nil, Nat.reduceAdd, Nat.reduceSub, Array.replicate_succ, Array.replicate_zero, List.push_toArray, List.append_toArray, List.nil_append, List.cons_append]
 go_wp2_with fail
 refine HAF.out.mono ?_
 rintro e w2 ⟨Fb, mp, rfl, hF, hfam, hb⟩
 rw [if_pos HOK.out] at hfam
 have HO2 := Aside0.mk (blk_keep HO.out hb)
 have HF2 := Aside0.mk hF
 have HFM := Aside0.mk hfam
 have HB2 := Aside0.mk (below_more (below_alloc (Below.refl _ _) _) hb)
 have HOW : Aside0 (w.heap.size ≤ w.heap.size ∧ w.heap.size < w2.heap.size) := ⟨Nat.le_refl _, blk_lt HO2.out⟩
 clear hF hfam hb HO HAF
 obtain ⟨O, HOe⟩ : ∃ O, Aside0 (w.heap.size = O) := ⟨_, ⟨rfl⟩⟩
 rw [HOe.out] at HO2
 have HOW : Aside0 (w.heap.size ≤ O ∧ O < w2.heap.size) := ⟨by rw [← HOe.out]; exact HOW.out⟩
 rw [show (Value.pointer (some { block := w.heap.size, off := 0 })) = .pointer (some ⟨O, 0, none⟩) by rw [HOe.out]]
 go_wp2_with fail
 refine wpIn_wide.1 (ListRange.wpIn_move (n := 10) (F := Fence.wide) rfl (by decide) (gf := 114) (lb := #[.pointer (some ⟨Fb, 0, none⟩)]) rfl trivial Tryz.call114
  (encs := fun x : Nat × Node => #[.int .i64 (x.1 : Int), vNode x.2]) (Kp := KpT w2.heap.size (fun i => i = O)) (L := ordOf ll) (w0 := w2) ownT
  (all_moves _ mp Fb (fun i => i = O) ll w2 HS.out HL.out HF2.out HFM.out (fun i c t e hc => by subst e; rw [HO2.out] at hc; cases hc; exact .inr (.inl rfl)))
  (fun h k => h.trans k) (fun W l o o' hl ho hc _ => KpT.put (Nat.le_refl _) W l o o' hl ho hc) (Below.refl _ _) (fun _ => rfl)
  (fun k W => CollD w w2.heap.size O (dts ((ordOf ll).take k)) W ∧ w2.heap.size ≤ W.heap.size)
  (fun _ _ _ => False)
  (fun k W W' row hs hg hr => ⟨hs.1.walk hg (fun r e => ⟨Nat.le_trans HB2.out.size (hr r e).1, (hr r e).2⟩), Nat.le_trans hs.2 hg.size⟩) (fun _ _ _ _ _ hs _ _ => hs)
  (fun k A B hm hs => ⟨hs.1.mv hm HB2.out.size, Nat.le_trans hs.2 hm.size⟩) (fun _ _ _ _ _ hs => hs)
  ⟨⟨⟨_, HO2.out, Kd.R_nil _ _ _ _ _⟩, HB2.out⟩, Nat.le_refl _⟩
  (fun x a' W => ∃ Nb, w2.heap.size ≤ Nb ∧ W.heap[Nb]? = some (boxN x.2) ∧ a' = { tmps := #[.slice A0 n c0, undef, .slice none 0 0, .pointer (some ⟨O, 0, none⟩), undef, .pointer (some ⟨Nb, 0, none⟩), .slice A0 n c0, .func (.func 114) #[] #[.pointer (some ⟨Fb, 0, none⟩)], .int .i64 (x.1 : Int), vNode x.2, undef, undef, undef, undef, undef, undef], defers := [] })
  (fun x a' _ W W' row hs hg hr => by
   obtain ⟨Nb, h1, h2, h3⟩ := hs
   exact ⟨Nb, h1, (hg.block Nb (blk_lt h2) (fun e => by obtain ⟨_, o, ho, hc⟩ := hr Nb e.symm; rw [h2] at ho; cases ho; cases hc)).trans h2, h3⟩)
  ?assign ?body ?done ?stop)
 case assign =>
  rintro lp k x W K hx ⟨h1, h2⟩ hK
  gi_wp2
  exact hK _ _ ((KeepsOthers.alloc _ _).from _) (KpT.below (Gr.alloc W _).below h2) ⟨h1.more (Gr.alloc W _).below, Nat.le_trans h2 (by rw [World.size_alloc]; omega)⟩ ⟨W.heap.size, h2, blk_new _ _, rfl⟩
 case body =>
  rintro lp k x a' W hx hl2 ⟨rr, hrr⟩ ⟨⟨⟨u, h1, h2⟩, h3⟩, h4⟩ ⟨Nb, hx1, hx2, rfl⟩
  have hlen : (dts ((ordOf ll).take k)).length ≤ 1000000 := by unfold dts; rw [List.length_map, List.length_take]; exact Nat.le_trans (Nat.min_le_right _ _) (Nat.le_trans (ord_le HS.out) HL.out)
  obtain ⟨u2, w3, hrun, hrd, hgr, hat⟩ := run_append_dot w2.heap.size 41 u _ x.2.f0 W.heap.size 1 (W.alloc (dotC x.2.f0)) (RD.below' h2 (Gr.alloc W _).below) (blk_new _ _) (Nat.le_trans h4 (by rw [World.size_alloc]; omega)) (by omega)
  have hput := CollD.put HB2.out.size (Nat.le_trans HOW.out.1 (Nat.le_refl _)) h1 h2 h3 (Gr.alloc W _) hgr hrd hat h4
  have hO3 : w3.heap[O]? = some (outD u) := (hgr.block O (Nat.lt_of_lt_of_le (blk_lt h1) (Gr.alloc W (dotC x.2.f0)).below.size) (fun e => by
   obtain ⟨_, cur, hc⟩ := h2.block e.symm
   rw [h1] at hc
   exact absurd (Obj.cells.inj (Option.some.inj hc)).2.1 (by decide))).trans (blk_alloc h1 _)
  have HTK : Aside0 (dts ((ordOf ll).take (k + 1)) = dts ((ordOf ll).take k) ++ [x.2.f0]) := ⟨by
   have hk := (List.getElem?_eq_some_iff.1 hx).1
   unfold dts
   rw [List.take_succ_eq_append_getElem hk, (List.getElem?_eq_some_iff.1 hx).2, List.map_append]; rfl⟩
  obtain ⟨A, c, rfl⟩ := h2.slice
  obtain ⟨A2, c2, rfl⟩ := hrd.slice
  obtain ⟨m, hm⟩ : ∃ m, (dts ((ordOf ll).take k)).length = m := ⟨_, rfl⟩
  obtain ⟨m2, hm2⟩ : ∃ m2, (dts ((ordOf ll).take k) ++ [x.2.f0]).length = m2 := ⟨_, rfl⟩
  rw [hm] at h1 h2 hrun hgr hat hO3
  rw [hm2] at hrun hrd hat hput
  clear hm hm2
  have cO : W.cell? ⟨O, 0, none⟩ = _ := (blk_cell h1 0).trans rfl
  have n0 : W.cell? ⟨Nb, 0, none⟩ = _ := (blk_cell hx2 0).trans rfl
  have n1 : W.cell? ⟨Nb, 1, none⟩ = _ := (blk_cell hx2 1).trans rfl
  have n2 : W.cell? ⟨Nb, 2, none⟩ = _ := (blk_cell hx2 2).trans rfl
  have n3 : W.cell? ⟨Nb, 3, none⟩ = _ := (blk_cell hx2 3).trans rfl
  have n4 : W.cell? ⟨Nb, 4, none⟩ = _ := (blk_cell hx2 4).trans rfl
  have n5 : W.cell? ⟨Nb, 5, none⟩ = _ := (blk_cell hx2 5).trans rfl
  have cO3 : w3.cell? ⟨O, 0, none⟩ = _ := (blk_cell hO3 0).trans rfl
  have fO3 := blk_frozen hO3 0
  have HRUN := Aside0.mk hrun
  have HPUT := Aside0.mk hput
  have HSZ3 : Aside0 (w2.heap.size ≤ w3.heap.size) := ⟨Nat.le_trans (Nat.le_trans h4 (Gr.alloc W (dotC x.2.f0)).below.size) hgr.size⟩
  clear h1 h2 h3 h4 hx hx1 hx2 hrun hrd hgr hat hput hO3 hlen
  obtain ⟨x0, x1⟩ := x
  dsimp only at n0 n1 n2 n3 n4 n5 ⊢
  gi_wp2_with (gi_at_builtin; refine wpListIn_append_eq rfl (.tmp 10) (.tmp 13) 41 rfl rfl rfl HRUN.out ?_)
  exact ⟨HPUT.out.1, HPUT.out.2.1, by rw [HTK.out]; exact HPUT.out.2.2, by rw [World.size_setCell]; exact HSZ3.out⟩
 case done =>
  rintro D W hD ⟨h1, h2⟩ hDK
  rw [List.take_length] at h1
  obtain ⟨⟨u, hO, hr⟩, hbl⟩ := h1
  obtain ⟨A, c, rfl⟩ := hr.slice
  obtain ⟨m, hm⟩ : ∃ m, (dts (ordOf ll)).length = m := ⟨_, rfl⟩
  rw [hm] at hO hr
  clear hm
  have cO : W.cell? ⟨O, 0, none⟩ = _ := (blk_cell hO 0).trans rfl
  have HEND : Aside0 (RD W w.heap.size (.slice A m c) (dts (ordOf ll)) ∧ Below w.heap.size w W ∧ W.heap[D]? = some (.deferred (some [])) ∧ w.heap.size ≤ D) := ⟨Kd.R_lower hr HB2.out.size, hbl, hDK, Nat.le_trans HB2.out.size hD⟩
  clear hO hr hbl hDK hD h2
  go_wp2
  refine leaves_of_marks2 (n0 := w.heap.size) [mkMark D] _ ⟨[D], rfl, by simp, fun E hE => ?_⟩ (fun W' hm => ⟨_, results_tmp rfl _ _ W', _, rfl, R_onlyMarks HEND.out.1 hm, below_onlyMarks HEND.out.2.1 hm⟩)
  simp only [List.mem_singleton] at hE
  subst hE
  exact ⟨HEND.out.2.2.2, HEND.out.2.2.1⟩
 case stop =>
  rintro D c k W _ _ h _
  exact h.elim
theorem dcellsOf_get (l : List Dot) (j : Nat) (u : Value) (h : (dcellsOf l)[j]? = some u) : ∃ x, l[j / 2]? = some x ∧ (dotCells x)[j % 2]? = some u := by
 have hj : j < l.length * 2 := by rw [← dcellsOf_length]; exact (List.getElem?_eq_some_iff.1 h).1
 have hd : j / 2 < l.length := by omega
 refine ⟨l[j / 2], List.getElem?_eq_getElem hd, ?_⟩
 rw [← dcellsOf_drop_take l (j / 2) _ (List.getElem?_eq_getElem hd), List.getElem?_take, if_pos (by omega), List.getElem?_drop, show j / 2 * 2 + j % 2 = j from by omega]
 exact h
theorem DC_cells {w : World} {A : Option Addr} {n : Nat} {xs : List Dot} (h : Kd.C k24 w A n xs) (hp : 0 < n) : ∃ ad, A = some ad ∧ ∀ j u, (dcellsOf xs)[j]? = some u → w.cell? (ad.add j) = some u := by
 obtain ⟨hl, _, hc⟩ := h
 obtain ⟨ad, e, hc⟩ := hc hp
 refine ⟨ad, e, fun j u hu => ?_⟩
 obtain ⟨x, hx, hu⟩ := dcellsOf_get xs j u hu
 obtain ⟨c, _, hK, hcell⟩ := hc _ _ hx
 have hcx : c = dotCells x := k24_open hK
 subst hcx
 have h2 := hcell _ _ hu
 have e2 : j / 2 * (k24).sz + j % 2 = j := (show j / 2 * 2 + j % 2 = j by omega)
 rw [e2] at h2
 exact h2
theorem done_cells (l : List Dot) : ∀ u ∈ dcellsOf l, u.oneCell' = true := by
 intro u hu
 unfold dcellsOf at hu
 rw [List.mem_flatMap] at hu
 obtain ⟨x, _, hx⟩ := hu
 simp [dotCells] at hx
 rcases hx with rfl | rfl <;> rfl
set_option maxHeartbeats 400000 in
set_option maxRecDepth 100000 in
theorem CloneDot.calls (A0 : Option Addr) (c0 : Nat) (l0 : List Dot) (w : World) (hr0 : Kd.C k24 w A0 l0.length l0) (hl : l0.length ≤ 1000000) :
  Calls Tryz.prog 75 #[.slice A0 l0.length c0] w fun e w' => ∃ v0_ : Value, e = .returned v0_ ∧ Kd.R k24 24 w' w.heap.size (fun _ => True) v0_ l0 ∧ Below w.heap.size w w' := by
 cases A0 with
 | none =>
  have hz : l0 = [] := by
   cases l0 with
   | nil => rfl
   | cons x l => obtain ⟨ad, e, _⟩ := DC_cells hr0 (by simp); cases e
  subst hz
  have hq := fun (W : World) => Lib.run_eql_slice_nil_nil (P := Tryz.prog) W 0 c0 Tryz.underlying41
  clear hr0
  go_enter Tryz.func75, Tryz.ntmps75
  go_wp2
  go_ret
  exact ⟨_, rfl, Kd.R_nil _ _ _ _ _, Below.refl _ _⟩
 | some ad =>
  have hq := fun (W : World) => Lib.run_eql_slice_some_nil (P := Tryz.prog) W ad l0.length c0 Tryz.underlying41
  have HR := Aside0.mk hr0
  obtain ⟨i0, hi, hz0, hz1, hz2⟩ := info_parts infoD
  have hz := Tryz.zeroValue24
  have hlen := dcellsOf_length l0
  have hcells : Aside0 (∀ j u, (dcellsOf l0)[j]? = some u → w.cell? (ad.add j) = some u) := ⟨by
   intro j u hu
   by_cases hp : 0 < l0.length
   ·
    obtain ⟨ad', e, h⟩ := DC_cells hr0 hp
    cases e; exact h j u hu
   ·
    have : l0 = [] := by cases l0 <;> simp_all
    subst this; simp [dcellsOf] at hu⟩
  clear hr0
  go_enter Tryz.func75, Tryz.ntmps75
  go_wp2_with (at_builtin; go_loud (refine wpList_append_own _ rfl (.tmp 5) (.tmp 6) 41 rfl w.heap.size 24 i0 _ 2 16 Tryz.underlying41 hi hz0 hz1 hz2 rfl (by decide) _ 0 [] rfl (World.ownsRow_lit w #[] 0 (Nat.le_refl _) (by decide) rfl) ad l0.length c0 (dcellsOf l0) rfl hlen ?c1 (done_cells l0) ?c2 ?c3 ?c4 ?_); (case c1 => exact fun j u hu => pw_cell_below (below_alloc (Below.refl _ _) _) (hcells.out j u hu)); (case c2 => unfold maxLen; omega); (case c3 => omega); (case c4 => simp); intro v' w' ho hg hn)
  go_ret
  exact ⟨_, rfl, RD_of_cells (by simpa using ho), (below_alloc (Below.refl _ _) _).grown hg (by simp) (fun k e => by cases (show some w.heap.size = some k from e); exact Nat.le_refl _)⟩
end Go.Proofs.YtjlpaagnajmogaaGreat.PWalk
end
section
namespace Go.Proofs.YtjlpaagnajmogaaGreat.PWalk
open Go.RowKit Go.Proofs.YtjlpaagnajmogaaGreatW.PrintWords Go.Proofs.YtjlpaagnajmogaaGreatW.PrintLast Go.Proofs.YtjlpaagnajmogaaGreatW.PrintMore
set_option linter.unusedVariables false
set_option linter.unusedSimpArgs false
open Go.Shelf
attribute [local go_sem] Oper.semAt_some
theorem R_of_row {w : World} {base g n cap : Nat} {l : List Node} {cur : Array Value} (hn : n = l.length) (hb : base ≤ g) (hc : w.heap[g]? = some (.cells cur 35 (0, 0))) (hle : n ≤ cap) (hmx : cap ≤ 9223372036854775807) (hsz : cur.size = cap * 6) (ht : cur.toList.take (n * 6) = cellsOf l) :
  Kd.R k35 35 w base (fun _ => True) (.slice (some ⟨g, 0, none⟩) n cap) l := by
 subst hn
 exact R_of_cells ⟨cellsOf_length _, .inr ⟨g, cap, cur, rfl, hb, hc, hle, hmx, hsz, ht⟩⟩ (fun _ _ => trivial)
theorem run_storeVar_at {P : Program} (w : World) (g o : Nat) (t ty : TypeId) (cur cells : Array Value) (hg : w.heap[g]? = some (.cells cur t (0, 0))) (hi : (P.info? ty).map (·.size) = some cells.size)
  (ho : o + cells.size ≤ cur.size) (h1 : ∀ v ∈ cells.toList, v.oneCell' = true) :
  (storeVar ty ⟨g, o, none⟩ (.agg cells)).run P w = .ok () (w.setRow g (cur.toList.take o ++ cells.toList ++ cur.toList.drop (o + cells.size)).toArray) := by
 have := run_storeCells_at (P := P) g o t cells.toList 0 cur w hg (by rw [Array.length_toList]; exact ho) h1
 cases hq : P.info? ty with
 | none => simp [hq] at hi
 | some i =>
  have hs : cells.size = i.size := by simp [hq] at hi; omega
  simp only [Nat.add_zero, Array.length_toList] at this
  simp [storeVar, sizeOf, typeInfo, hq, Value.cells, hs, this]
theorem box_cells {V : World} {g : Nat} {c0 c1 c2 c3 c4 c5 : Value} (h : V.heap[g]? = some (.cells #[c0, c1, c2, c3, c4, c5] 35 (0, 0))) :
  V.cell? ⟨g, 0, none⟩ = some c0 ∧ V.cell? ⟨g, 1, none⟩ = some c1 ∧ V.cell? ⟨g, 2, none⟩ = some c2 ∧ V.cell? ⟨g, 3, none⟩ = some c3 ∧ V.cell? ⟨g, 4, none⟩ = some c4 ∧ V.cell? ⟨g, 5, none⟩ = some c5 :=
 ⟨(blk_cell h 0).trans rfl, (blk_cell h 1).trans rfl, (blk_cell h 2).trans rfl, (blk_cell h 3).trans rfl, (blk_cell h 4).trans rfl, (blk_cell h 5).trans rfl⟩
section
variable {ops : Array Oper} {rest : List Oper} {o : Oper} {a : Act} {Q : Exit → Act → World → Prop}
end
theorem own_more {w V : World} {base : Nat} {v : Value} {l : List Node} (h : Kd.R k35 35 w base (fun _ => True) v l) (hb : Below w.heap.size w V) : Kd.R k35 35 V base (fun _ => True) v l := Kd.R_below h hb
theorem dead_call (x : Node) (W : World) : Calls Tryz.prog 120 #[vNode x] W fun e W' => e = .returned (.bool (decide (x.f3 = 0))) ∧ Below W.heap.size W W' :=
 node_Dead.calls x.f0.f0 x.f0.f1 x.f1.f0 x.f1.f1 x.f2 x.f3 (decide (x.f3 = 0)) W (by unfold node_Dead.f; by_cases h : x.f3 = 0 <;> simp [h])
theorem grown_on {w W V : World} {row : Option Nat} (h : W.grownBy V row) (hb : Below w.heap.size w W) (hr : ∀ k, row = some k → w.heap.size ≤ k) : Below w.heap.size w V := hb.grown h hb.size hr
theorem R_base {W : World} {base : Nat} {v : Value} {l : List Node} (h : Kd.R k35 35 W base (fun _ => True) v l) : ∀ k, v.ownBlock = some k → base ≤ k := fun k e => by
 obtain ⟨_, ho⟩ := cells_of_R h
 rcases ho with ⟨rfl, _⟩ | ⟨g, cap, cur, rfl, hb, _⟩
 ·
  cases e
 ·
  cases e; exact hb
end Go.Proofs.YtjlpaagnajmogaaGreat.PWalk
end
section
namespace Go.Proofs.YtjlpaagnajmogaaGreat.PWalk
open Go.RowKit Go.Proofs.YtjlpaagnajmogaaGreatW.PrintWords Go.Proofs.YtjlpaagnajmogaaGreatW.PrintLast Go.Proofs.YtjlpaagnajmogaaGreatW.PrintMore
set_option linter.unusedVariables false
set_option linter.unusedSimpArgs false
open Go.Shelf
attribute [local go_sem] Oper.semAt_some
theorem dot_at {w wr : World} {A : Option Addr} {n : Nat} {xs : List Dot} (h : Kd.C k24 w A n xs) (hb : Below w.heap.size w wr) (k : Nat) (x : Dot) (hk : xs[k]? = some x) :
  ∃ ad, A = some ad ∧ wr.cell? (ad.add (k * 2)) = some (.int .i64 x.f0) ∧ wr.cell? ⟨(ad.add (k * 2)).block, (ad.add (k * 2)).off + 1, none⟩ = some (.int .i64 x.f1) := by
 have hl := Kd.C_len h
 have hlt := (List.getElem?_eq_some_iff.1 hk).1
 obtain ⟨ad, e, h0, h1⟩ := at_T24 h (k : Int) (by omega) (by omega)
 have hd : rd_T24 xs (k : Int) = x := by simp [rd_T24, hk]
 rw [hd] at h0 h1
 simp only [Int.toNat_natCast] at h0 h1
 exact ⟨ad, e, pw_cell_below hb h0, pw_cell_below hb h1⟩
def ixdInv (W0 : World) (ad : Addr) (n c0 B k : Nat) (d x : Dot) (b : Bool) (z1 z2 z4 z6 z7 z8 z9 z10 z11 z12 z13 z14 z15 z16 z17 z18 : Value) (L : Array Bool) (ac : Act) (V : World) : Prop := ∃ (l0 l1 l2 l3 l4 l5 : Bool), L = #[l0, l1, l2, l3, l4, l5] ∧ ac = { tmps := #[.slice (some ad) n c0, z1, z2, .pointer (some ⟨B, 0, none⟩), z4, .int .i64 (k : Int), z6, z7, z8, z9, z10, selv l0 (vDot d) (z11), selv l1 (.slice (some ad) n c0) (z12), selv l2 (.int .i64 (k : Int)) (z13), selv l3 (.pointer (some (ad.add (k * 2)))) (z14), selv l4 (vDot x) (z15), selv l5 (.bool b) (z16), z17, z18], defers := [] } ∧ Aside0 (V = W0)
set_option maxHeartbeats 1000000 in
set_option maxRecDepth 100000 in
theorem IndexDot_call (A0 : Option Addr) (n c0 : Nat) (ds : List Dot) (d : Dot) (w : World) (hn : ds.length = n) (hr0 : Kd.C k24 w A0 n ds) (hl : n ≤ 1000000) :
  Calls Tryz.prog 126 #[.slice A0 n c0, vDot d] w fun e w' => (∃ r : Int, e = .returned (.int .i64 r) ∧ (0 ≤ r ↔ d ∈ ds)) ∧ Below w.heap.size w w' := by
 have HR := Aside0.mk hr0
 have Hn := Aside0.mk hn
 have HB0 := Aside0.mk (Gr.alloc w (dotC d)).below
 have HK0 := Aside0.mk (blk_new w (dotC d))
 clear hr0 hn
 go_enter Tryz.func126, Tryz.ntmps126
 go_wp2
 generalize w.alloc (dotC d) = W1 at *
 obtain ⟨B, HBe⟩ : ∃ B, Aside0 (w.heap.size = B) := ⟨_, ⟨rfl⟩⟩
 rw [HBe.out] at HK0
 rw [show (Value.pointer (some { block := w.heap.size, off := 0 })) = .pointer (some ⟨B, 0, none⟩) by rw [HBe.out]]
 go_loopw [8] (fun i wr => ∃ k : Nat, k ≤ n ∧ i = .int .i64 k ∧ Aside0 (d ∉ ds.take k) ∧ Aside0 (wr.heap[B]? = some (dotC d)) ∧ Aside0 (Below w.heap.size w wr)) (fun i _ => n - (intOf i).toNat)
 case atStart => exact ⟨0, Nat.zero_le _, rfl, ⟨by simp⟩, HK0, HB0⟩
 case round =>
  obtain ⟨k, hk, rfl, HNO, HK, HB⟩ := hrel
  by_cases hlt : k < n
  ·
   have hltb : decide ((k : Int) < (n : Int)) = true := decide_eq_true (by omega)
   obtain ⟨x, hx⟩ : ∃ x, Aside0 (ds[k]? = some x) := ⟨_, ⟨List.getElem?_eq_getElem (by have := Hn.out; omega)⟩⟩
   obtain ⟨ad, e, g0, g1⟩ := dot_at HR.out HB.out k x hx.out
   subst e
   have hgd : Aside0 (Below w.heap.size w wr.drew) := ⟨below_drew1 HB.out⟩
   have K0 : Aside0 (wr.drew.cell? ⟨B, 0, none⟩ = some (.int .i64 d.f0)) := ⟨(blk_cell (blk_drew HK.out) 0).trans rfl⟩
   have K1 : Aside0 (wr.drew.cell? ⟨B, 1, none⟩ = some (.int .i64 d.f1)) := ⟨(blk_cell (blk_drew HK.out) 1).trans rfl⟩
   have G0 : Aside0 (wr.drew.cell? (ad.add (k * 2)) = some (.int .i64 x.f0)) := ⟨g0⟩
   have G1 : Aside0 (wr.drew.cell? ⟨(ad.add (k * 2)).block, (ad.add (k * 2)).off + 1, none⟩ = some (.int .i64 x.f1)) := ⟨g1⟩
   clear g0 g1
   have HTK : Aside0 (ds.take (k + 1) = ds.take k ++ [x]) := ⟨by rw [List.take_succ_eq_append_getElem (by have := Hn.out; omega), (List.getElem?_eq_some_iff.1 hx.out).2]⟩
   by_cases h0 : d.f0 = x.f0
   ·
    by_cases h1 : d.f1 = x.f1
    ·
     have HEND : Aside0 ((0 : Int) ≤ (k : Int) ↔ d ∈ ds) := ⟨⟨fun _ => by rw [show d = x from Dot.ext_iff'.2 ⟨h0, h1⟩]; exact List.mem_of_getElem? hx.out, fun _ => by omega⟩⟩
     have HQ0 := Aside0.mk h0
     have HQ1 := Aside0.mk h1
     clear h0 h1
     go_wp2
     refine AnyOrder.wp_region (by kernel_rfl) (ixdInv wr.drew ad n c0 B k d x true _ _ _ _ _ _ _ _ _ _ _ _ _ _ _ _) ⟨false, false, false, false, false, false, rfl, rfl, ⟨rfl⟩⟩ ?step ?last
     case step =>
      rintro L ac V i ⟨l0, l1, l2, l3, l4, l5, rfl, rfl, HF⟩ hi K hK
      have h1 : i = 0 ∨ i = 1 ∨ i = 2 ∨ i = 3 ∨ i = 4 ∨ i = 5 := by
       have h1 := (AnyOrder.mem_ready hi).1
       clear hi hK
       change i < 6 at h1
       omega
      rcases h1 with rfl | rfl | rfl | rfl | rfl | rfl
      ·
       obtain rfl : l0 = false := (AnyOrder.mem_ready hi).2.1
       clear hi
       obtain rfl := HF.out
       have k0 := K0.out
       have k1 := K1.out
       refine AnyOrder.wpOp_go rfl (by rfl) ?_
       go_wp2_with fail
       exact ⟨true, l1, l2, l3, l4, l5, rfl, rfl, ⟨rfl⟩⟩
      ·
       obtain rfl : l1 = false := (AnyOrder.mem_ready hi).2.1
       clear hi
       obtain rfl := HF.out
       refine AnyOrder.wpOp_go rfl (by rfl) ?_
       go_wp2_with fail
       exact ⟨l0, true, l2, l3, l4, l5, rfl, rfl, ⟨rfl⟩⟩
      ·
       obtain rfl : l2 = false := (AnyOrder.mem_ready hi).2.1
       clear hi
       obtain rfl := HF.out
       refine AnyOrder.wpOp_go rfl (by rfl) ?_
       go_wp2_with fail
       exact ⟨l0, l1, true, l3, l4, l5, rfl, rfl, ⟨rfl⟩⟩
      ·
       obtain rfl : l3 = false := (AnyOrder.mem_ready hi).2.1
       obtain rfl : l1 = true := AnyOrder.dep (q := 0) hi rfl rfl rfl
       obtain rfl : l2 = true := AnyOrder.dep (q := 1) hi rfl rfl rfl
       clear hi
       simp only [sel_true, selv_true] at hK ⊢
       obtain rfl := HF.out
       refine AnyOrder.wpOp_go rfl (by rfl) ?_
       go_wp2_with fail
       exact ⟨l0, true, true, true, l4, l5, rfl, rfl, ⟨rfl⟩⟩
      ·
       obtain rfl : l4 = false := (AnyOrder.mem_ready hi).2.1
       obtain rfl : l3 = true := AnyOrder.dep (q := 0) hi rfl rfl rfl
       clear hi
       simp only [sel_true, selv_true] at hK ⊢
       obtain rfl := HF.out
       have g0 := G0.out
       have g1 := G1.out
       refine AnyOrder.wpOp_go rfl (by rfl) ?_
       go_wp2_with fail
       exact ⟨l0, l1, l2, true, true, l5, rfl, rfl, ⟨rfl⟩⟩
      ·
       obtain rfl : l5 = false := (AnyOrder.mem_ready hi).2.1
       obtain rfl : l0 = true := AnyOrder.dep (q := 0) hi rfl rfl rfl
       obtain rfl : l4 = true := AnyOrder.dep (q := 1) hi rfl rfl rfl
       clear hi
       simp only [sel_true, selv_true] at hK ⊢
       obtain rfl := HF.out
       have h0 := HQ0.out
       have h1 := HQ1.out
       refine AnyOrder.wpOp_go rfl (by rfl) ?_
       go_wp2_with fail
       exact ⟨true, l1, l2, l3, true, true, rfl, rfl, ⟨rfl⟩⟩
     case last =>
      rintro L ac V ⟨l0, l1, l2, l3, l4, l5, rfl, rfl, HF⟩ hr
      have hall := AnyOrder.all_listed rfl (by kernel_rfl) hr
      clear hr
      obtain rfl : l0 = true := hall 0 (by decide)
      obtain rfl : l1 = true := hall 1 (by decide)
      obtain rfl : l2 = true := hall 2 (by decide)
      obtain rfl : l3 = true := hall 3 (by decide)
      obtain rfl : l4 = true := hall 4 (by decide)
      obtain rfl : l5 = true := hall 5 (by decide)
      clear hall
      simp only [sel_true, selv_true]
      obtain rfl := HF.out
      go_wp2
      go_ret
      exact ⟨⟨_, rfl, HEND.out⟩, hgd.out⟩
    ·
     have HQ0 := Aside0.mk h0
     have HQ1 := Aside0.mk h1
     clear h0 h1
     go_wp2
     refine AnyOrder.wp_region (by kernel_rfl) (ixdInv wr.drew ad n c0 B k d x false _ _ _ _ _ _ _ _ _ _ _ _ _ _ _ _) ⟨false, false, false, false, false, false, rfl, rfl, ⟨rfl⟩⟩ ?step ?last
     case step =>
      rintro L ac V i ⟨l0, l1, l2, l3, l4, l5, rfl, rfl, HF⟩ hi K hK
      have h1 : i = 0 ∨ i = 1 ∨ i = 2 ∨ i = 3 ∨ i = 4 ∨ i = 5 := by
       have h1 := (AnyOrder.mem_ready hi).1
       clear hi hK
       change i < 6 at h1
       omega
      rcases h1 with rfl | rfl | rfl | rfl | rfl | rfl
      ·
       obtain rfl : l0 = false := (AnyOrder.mem_ready hi).2.1
       clear hi
       obtain rfl := HF.out
       have k0 := K0.out
       have k1 := K1.out
       refine AnyOrder.wpOp_go rfl (by rfl) ?_
       go_wp2_with fail
       exact ⟨true, l1, l2, l3, l4, l5, rfl, rfl, ⟨rfl⟩⟩
      ·
       obtain rfl : l1 = false := (AnyOrder.mem_ready hi).2.1
       clear hi
       obtain rfl := HF.out
       refine AnyOrder.wpOp_go rfl (by rfl) ?_
       go_wp2_with fail
       exact ⟨l0, true, l2, l3, l4, l5, rfl, rfl, ⟨rfl⟩⟩
      ·
       obtain rfl : l2 = false := (AnyOrder.mem_ready hi).2.1
       clear hi
       obtain rfl := HF.out
       refine AnyOrder.wpOp_go rfl (by rfl) ?_
       go_wp2_with fail
       exact ⟨l0, l1, true, l3, l4, l5, rfl, rfl, ⟨rfl⟩⟩
      ·
       obtain rfl : l3 = false := (AnyOrder.mem_ready hi).2.1
       obtain rfl : l1 = true := AnyOrder.dep (q := 0) hi rfl rfl rfl
       obtain rfl : l2 = true := AnyOrder.dep (q := 1) hi rfl rfl rfl
       clear hi
       simp only [sel_true, selv_true] at hK ⊢
       obtain rfl := HF.out
       refine AnyOrder.wpOp_go rfl (by rfl) ?_
       go_wp2_with fail
       exact ⟨l0, true, true, true, l4, l5, rfl, rfl, ⟨rfl⟩⟩
      ·
       obtain rfl : l4 = false := (AnyOrder.mem_ready hi).2.1
       obtain rfl : l3 = true := AnyOrder.dep (q := 0) hi rfl rfl rfl
       clear hi
       simp only [sel_true, selv_true] at hK ⊢
       obtain rfl := HF.out
       have g0 := G0.out
       have g1 := G1.out
       refine AnyOrder.wpOp_go rfl (by rfl) ?_
       go_wp2_with fail
       exact ⟨l0, l1, l2, true, true, l5, rfl, rfl, ⟨rfl⟩⟩
      ·
       obtain rfl : l5 = false := (AnyOrder.mem_ready hi).2.1
       obtain rfl : l0 = true := AnyOrder.dep (q := 0) hi rfl rfl rfl
       obtain rfl : l4 = true := AnyOrder.dep (q := 1) hi rfl rfl rfl
       clear hi
       simp only [sel_true, selv_true] at hK ⊢
       obtain rfl := HF.out
       have h0 := HQ0.out
       have h1 := HQ1.out
       refine AnyOrder.wpOp_go rfl (by rfl) ?_
       go_wp2_with fail
       exact ⟨true, l1, l2, l3, true, true, rfl, rfl, ⟨rfl⟩⟩
     case last =>
      rintro L ac V ⟨l0, l1, l2, l3, l4, l5, rfl, rfl, HF⟩ hr
      have hall := AnyOrder.all_listed rfl (by kernel_rfl) hr
      clear hr
      obtain rfl : l0 = true := hall 0 (by decide)
      obtain rfl : l1 = true := hall 1 (by decide)
      obtain rfl : l2 = true := hall 2 (by decide)
      obtain rfl : l3 = true := hall 3 (by decide)
      obtain rfl : l4 = true := hall 4 (by decide)
      obtain rfl : l5 = true := hall 5 (by decide)
      clear hall
      simp only [sel_true, selv_true]
      obtain rfl := HF.out
      go_wp2
      go_roundw
      case rel => exact ⟨k + 1, by omega, by go_num, ⟨by rw [HTK.out, List.mem_append, List.mem_singleton]; rintro (h | h); exact HNO.out h; exact HQ1.out (by rw [h])⟩, ⟨blk_drew HK.out⟩, hgd⟩
      case measure => simp [intOf] <;> omega
   ·
    have HQ0 := Aside0.mk h0
    clear h0
    go_wp2
    refine AnyOrder.wp_region (by kernel_rfl) (ixdInv wr.drew ad n c0 B k d x false _ _ _ _ _ _ _ _ _ _ _ _ _ _ _ _) ⟨false, false, false, false, false, false, rfl, rfl, ⟨rfl⟩⟩ ?step ?last
    case step =>
     rintro L ac V i ⟨l0, l1, l2, l3, l4, l5, rfl, rfl, HF⟩ hi K hK
     have h1 : i = 0 ∨ i = 1 ∨ i = 2 ∨ i = 3 ∨ i = 4 ∨ i = 5 := by
      have h1 := (AnyOrder.mem_ready hi).1
      clear hi hK
      change i < 6 at h1
      omega
     rcases h1 with rfl | rfl | rfl | rfl | rfl | rfl
     ·
      obtain rfl : l0 = false := (AnyOrder.mem_ready hi).2.1
      clear hi
      obtain rfl := HF.out
      have k0 := K0.out
      have k1 := K1.out
      refine AnyOrder.wpOp_go rfl (by rfl) ?_
      go_wp2_with fail
      exact ⟨true, l1, l2, l3, l4, l5, rfl, rfl, ⟨rfl⟩⟩
     ·
      obtain rfl : l1 = false := (AnyOrder.mem_ready hi).2.1
      clear hi
      obtain rfl := HF.out
      refine AnyOrder.wpOp_go rfl (by rfl) ?_
      go_wp2_with fail
      exact ⟨l0, true, l2, l3, l4, l5, rfl, rfl, ⟨rfl⟩⟩
     ·
      obtain rfl : l2 = false := (AnyOrder.mem_ready hi).2.1
      clear hi
      obtain rfl := HF.out
      refine AnyOrder.wpOp_go rfl (by rfl) ?_
      go_wp2_with fail
      exact ⟨l0, l1, true, l3, l4, l5, rfl, rfl, ⟨rfl⟩⟩
     ·
      obtain rfl : l3 = false := (AnyOrder.mem_ready hi).2.1
      obtain rfl : l1 = true := AnyOrder.dep (q := 0) hi rfl rfl rfl
      obtain rfl : l2 = true := AnyOrder.dep (q := 1) hi rfl rfl rfl
      clear hi
      simp only [sel_true, selv_true] at hK ⊢
      obtain rfl := HF.out
      refine AnyOrder.wpOp_go rfl (by rfl) ?_
      go_wp2_with fail
      exact ⟨l0, true, true, true, l4, l5, rfl, rfl, ⟨rfl⟩⟩
     ·
      obtain rfl : l4 = false := (AnyOrder.mem_ready hi).2.1
      obtain rfl : l3 = true := AnyOrder.dep (q := 0) hi rfl rfl rfl
      clear hi
      simp only [sel_true, selv_true] at hK ⊢
      obtain rfl := HF.out
      have g0 := G0.out
      have g1 := G1.out
      refine AnyOrder.wpOp_go rfl (by rfl) ?_
      go_wp2_with fail
      exact ⟨l0, l1, l2, true, true, l5, rfl, rfl, ⟨rfl⟩⟩
     ·
      obtain rfl : l5 = false := (AnyOrder.mem_ready hi).2.1
      obtain rfl : l0 = true := AnyOrder.dep (q := 0) hi rfl rfl rfl
      obtain rfl : l4 = true := AnyOrder.dep (q := 1) hi rfl rfl rfl
      clear hi
      simp only [sel_true, selv_true] at hK ⊢
      obtain rfl := HF.out
      have h0 := HQ0.out
      refine AnyOrder.wpOp_go rfl (by rfl) ?_
      go_wp2_with fail
      exact ⟨true, l1, l2, l3, true, true, rfl, rfl, ⟨rfl⟩⟩
    case last =>
     rintro L ac V ⟨l0, l1, l2, l3, l4, l5, rfl, rfl, HF⟩ hr
     have hall := AnyOrder.all_listed rfl (by kernel_rfl) hr
     clear hr
     obtain rfl : l0 = true := hall 0 (by decide)
     obtain rfl : l1 = true := hall 1 (by decide)
     obtain rfl : l2 = true := hall 2 (by decide)
     obtain rfl : l3 = true := hall 3 (by decide)
     obtain rfl : l4 = true := hall 4 (by decide)
     obtain rfl : l5 = true := hall 5 (by decide)
     clear hall
     simp only [sel_true, selv_true]
     obtain rfl := HF.out
     go_wp2
     go_roundw
     case rel => exact ⟨k + 1, by omega, by go_num, ⟨by rw [HTK.out, List.mem_append, List.mem_singleton]; rintro (h | h); exact HNO.out h; exact HQ0.out (by rw [h])⟩, ⟨blk_drew HK.out⟩, hgd⟩
     case measure => simp [intOf] <;> omega
  ·
   obtain rfl : k = n := by omega
   have hltb : decide ((k : Int) < (k : Int)) = false := decide_eq_false (by omega)
   have HEND : Aside0 ((0 : Int) ≤ -1 ↔ d ∈ ds) := ⟨⟨fun h => absurd h (by decide), fun h => absurd (by rw [List.take_of_length_le (Nat.le_of_eq Hn.out)]; exact h) HNO.out⟩⟩
   go_wp2
   go_ret
   exact ⟨⟨_, rfl, HEND.out⟩, HB.out⟩
set_option maxHeartbeats 1000000 in
set_option maxRecDepth 100000 in
theorem ContainsDot_call (A0 : Option Addr) (n c0 : Nat) (ds : List Dot) (d : Dot) (w : World) (hn : ds.length = n) (hr0 : Kd.C k24 w A0 n ds) (hl : n ≤ 1000000) :
  Calls Tryz.prog 94 #[.slice A0 n c0, vDot d] w fun e w' => e = .returned (.bool (decide (d ∈ ds))) ∧ Below w.heap.size w w' := by
 have HR := Aside0.mk hr0
 have Hn := Aside0.mk hn
 have HB0 := Aside0.mk (Gr.alloc w (dotC d)).below
 have HK0 := Aside0.mk (blk_new w (dotC d))
 have k0 : (w.alloc (dotC d)).cell? ⟨w.heap.size, 0, none⟩ = _ := (blk_cell HK0.out 0).trans rfl
 have k1 : (w.alloc (dotC d)).cell? ⟨w.heap.size, 1, none⟩ = _ := (blk_cell HK0.out 1).trans rfl
 have HIX := Aside0.mk (IndexDot_call A0 n c0 ds d (w.alloc (dotC d)) hn (Kd.C_below hr0 HB0.out) hl)
 clear hr0 hn
 go_enter Tryz.func94, Tryz.ntmps94
 go_wp2_with fail
 refine HIX.out.mono ?_
 rintro e w1 ⟨⟨r, rfl, hr⟩, hb⟩
 have HB := Aside0.mk (below_more HB0.out hb)
 have HRR := Aside0.mk hr
 clear hb hr
 by_cases h0 : 0 ≤ r
 ·
  have h0b : decide (r ≥ 0) = true := decide_eq_true h0
  have HDD : Aside0 (decide (d ∈ ds) = true) := ⟨decide_eq_true (HRR.out.1 h0)⟩
  go_wp2
  go_ret
  exact ⟨by rw [HDD.out]; rfl, HB.out⟩
 ·
  have h0b : decide (r ≥ 0) = false := decide_eq_false h0
  have HDD : Aside0 (decide (d ∈ ds) = false) := ⟨decide_eq_false (fun h => h0 (HRR.out.2 h))⟩
  go_wp2
  go_ret
  exact ⟨by rw [HDD.out]; rfl, HB.out⟩
end Go.Proofs.YtjlpaagnajmogaaGreat.PWalk
end
section
namespace Go.Proofs.YtjlpaagnajmogaaGreat.PWalk
open Go.RowKit Go.Proofs.YtjlpaagnajmogaaGreatW.PrintWords Go.Proofs.YtjlpaagnajmogaaGreatW.PrintLast Go.Proofs.YtjlpaagnajmogaaGreatW.PrintMore
set_option linter.unusedVariables false
set_option linter.unusedSimpArgs false
open Go.Shelf
attribute [local go_sem] Oper.semAt_some
instance : Inhabited Dot := ⟨⟨0, 0⟩⟩
theorem swoD : Go.Sort.SWO (ltOf dotCmp) := by
 have e : ltOf dotCmp = dotLt := by funext x y; exact dotCmp_lt x y
 rw [e]
 exact ⟨dotLt_irrefl, fun _ _ _ h k => dotLt_trans h k, fun a b c h k => by
  unfold dotLt at *
  simp only [decide_eq_false_iff_not] at *
  omega⟩
set_option maxRecDepth 100000 in
theorem sortD_call (base n : Nat) (u : Value) (xs : List Dot) (w : World) (h : RD w base u xs) (hl : xs.length ≤ 1000000) :
  Calls Tryz.prog 148 #[u, .func (.func 108) #[] #[]] w fun e w' => e = .returned (.tuple #[]) ∧ ∃ ys, RD w' base u ys ∧ ys.Perm xs ∧ ys.Pairwise (fun a b => dotLt b a = false) ∧ Tch (fun i => u.ownBlock = some i) w w' := by
 obtain ⟨hcl, ho⟩ := dcells_of_R h
 rcases ho with ⟨h0, h1⟩ | ⟨g, cap, cur, he, hbg, hcur, hle, hmx, hsz, htk⟩
 ·
  subst h0
  have hx : xs = [] := List.length_eq_zero_iff.1 h1
  subst hx
  refine (Go.Proofs.AnyF.slices_SortFunc_none Tryz.sortDot none 0 (.func (.func 108) #[] #[]) w).mono ?_
  rintro e w' ⟨rfl, rfl⟩
  exact ⟨rfl, [], h, List.Perm.refl _, List.Pairwise.nil, ⟨rfl, rfl, rfl, Nat.le_refl _, fun _ _ _ => rfl⟩⟩
 subst he
 obtain ⟨n, hn⟩ : ∃ n, xs.length = n := ⟨_, rfl⟩
 rw [hn] at hle htk h hcl ⊢
 have hds : xs.toArray.size = n := by rw [List.size_toArray]; exact hn
 have hH := row_holds dotCells 2 (fun _ => rfl) (by decide) (d := xs.toArray) hcur hds htk
 have hcon := Go.Proofs.AnyQ.slices_SortFunc Tryz.sortDot 2 Tryz.isAgg24 Tryz.sizeOf24 dotCells (fun _ => rfl) (fun x v hv => done_cells [x] v (by simpa [dcellsOf] using hv)) dotCmp swoD 108 #[] g 0 cap xs.toArray w Tryz.call108 (fun m os dk hs x y => dotCmp_call x y _) hH (blk_lt hcur) (by rw [hds]; omega)
 rw [hds] at hcon
 refine hcon.mono ?_
 rintro e w' ⟨rfl, d', m, os, hp, hs, rfl⟩
 have hd' : d'.size = n := hp.1.trans hds
 obtain ⟨⟨cur', h1, h2, h3⟩, ht⟩ := row_sorted dotCells 2 (fun _ => rfl) (by decide) (d' := d') hcur hsz hd' hle m os
 have hperm : d'.toList.Perm xs := by
  have := hp.2.2
  rw [hd'.symm, Array.extract_size, hd', ← hds, Array.extract_size] at this
  exact this
 have hlen : d'.toList.length = n := by rw [Array.length_toList]; exact hd'
 refine ⟨rfl, d'.toList, RD_of_cells ⟨by rw [dcellsOf_length], .inr ⟨g, cap, cur', by rw [hlen], hbg, h1, by rw [hlen]; exact hle, hmx, h2, by rw [hlen, h3]; rfl⟩⟩, hperm, ?_, ht⟩
 refine List.pairwise_iff_getElem.2 fun i j hi hj hij => ?_
 have := hs i j (Nat.zero_le _) hij (by rw [Array.length_toList, hd'] at hj; omega)
 rw [Array.length_toList] at hi hj
 rw [getElem!_pos d' j hj, getElem!_pos d' i hi] at this
 rw [← dotCmp_lt]
 simpa [ltOf] using this
structure EntsD (W : World) (A : Option Addr) (n : Nat) (ks : List Dot) : Prop where
 kl : ks.length = n
 small : n ≤ 1000000
 row : ∀ i k, ks[i]? = some k → ∃ eb, A = some ⟨eb, 0, none⟩ ∧ W.cell? ⟨eb, i * 2, none⟩ = some (.int .i64 k.f0) ∧ W.cell? ⟨eb, i * 2 + 1, none⟩ = some (.int .i64 k.f1)
theorem EntsD.get {W : World} {A : Option Addr} {n : Nat} {ks : List Dot} (h : EntsD W A n ks) {i : Nat} (hi : i < n) : ∃ k eb, ks[i]? = some k ∧ A = some ⟨eb, 0, none⟩ ∧ W.cell? ⟨eb, i * 2, none⟩ = some (.int .i64 k.f0) ∧ W.cell? ⟨eb, i * 2 + 1, none⟩ = some (.int .i64 k.f1) := by
 have h1 : i < ks.length := by rw [h.kl]; exact hi
 obtain ⟨eb, e, c0, c1⟩ := h.row i _ (List.getElem?_eq_getElem h1)
 exact ⟨_, eb, List.getElem?_eq_getElem h1, e, c0, c1⟩
theorem EntsD.of {W : World} {base : Nat} {A : Option Addr} {n c : Nat} {ks : List Dot} (h : RD W base (.slice A n c) ks) (hl : ks.length ≤ 1000000) : EntsD W A n ks := by
 have h' := dcells_of_R h
 rcases h'.2 with ⟨e, h0⟩ | ⟨g, c', cur, e, hb, hcur, h1, h2, h3, h4⟩
 ·
  cases e
  have : ks = [] := List.length_eq_zero_iff.1 h0
  subst this
  exact ⟨rfl, Nat.zero_le _, fun i k hk => by simp at hk⟩
 ·
  cases e
  refine ⟨rfl, hl, fun i k hk => ⟨g, rfl, ?_⟩⟩
  have hi := (List.getElem?_eq_some_iff.1 hk).1
  have hc : ∀ j u, (dotCells k)[j]? = some u → W.cell? ⟨g, i * 2 + j, none⟩ = some u := fun j u hu => by
   have hj : j < 2 := (List.getElem?_eq_some_iff.1 hu).1
   rw [h'.cellAt (i * 2 + j) (by omega)]
   have h5 := dcellsOf_drop_take ks i k hk
   have h6 : (((dcellsOf ks).drop (i * 2)).take 2)[j]? = some u := by rw [h5]; exact hu
   rw [List.getElem?_take, if_pos hj, List.getElem?_drop] at h6
   exact h6
  exact ⟨hc 0 _ rfl, hc 1 _ rfl⟩
def bdrInv (w : World) (B eb n c : Nat) (d : Dot) (i j h : Nat) (k : Dot) (z12 z13 z14 z15 z16 z17 z18 z19 z20 z21 z22 z23 u24 u25 u26 u27 u28 u29 u30 u31 u32 u33 u34 : Value) (L : Array Bool) (ac : Act) (V : World) : Prop := ∃ (l0 l1 l2 l3 l4 l5 l6 l7 : Bool), L = #[l0, l1, l2, l3, l4, l5, l6, l7] ∧ ac = { tmps := #[.slice (some ⟨eb, 0, none⟩) n c, vDot d, .func (.func 108) #[] #[], undef, .pointer (some ⟨B, 0, none⟩), undef, .int .i64 0, .bool false, .int .i64 n, .int .i64 i, .int .i64 j, .int .i64 h, z12, z13, z14, z15, z16, z17, z18, z19, z20, z21, z22, z23, selv l0 (.func (.func 108) #[] #[]) (u24), selv l1 (.slice (some ⟨eb, 0, none⟩) n c) (u25), selv l2 (.int .i64 h) (u26), selv l3 (.pointer (some ⟨eb, h * 2, none⟩)) (u27), selv l4 (vDot k) (u28), selv l5 (vDot d) (u29), selv l6 (.int .i64 (dotCmp k d)) (u30), selv l7 (.bool (decide (dotCmp k d < 0))) (u31), u32, u33, u34, undef, undef, undef, undef, undef, undef, undef, undef, undef, undef, undef, undef, undef, undef], defers := [] } ∧ Aside0 (Bs w d V)
def bdtInv (w : World) (B eb n c : Nat) (d : Dot) (q : Nat) (k : Dot) (y11 y12 y13 y14 y15 y16 y17 y18 y19 y20 y21 y22 y23 y24 y25 y26 y27 y28 y29 y30 y31 y32 y33 y34 : Value) (L : Array Bool) (ac : Act) (V : World) : Prop := ∃ (l0 l1 l2 l3 l4 l5 l6 l7 l8 l9 l10 l11 l12 l13 l14 l15 : Bool), L = #[l0, l1, l2, l3, l4, l5, l6, l7, l8, l9, l10, l11, l12, l13, l14, l15] ∧ ac = { tmps := #[.slice (some ⟨eb, 0, none⟩) n c, vDot d, .func (.func 108) #[] #[], undef, .pointer (some ⟨B, 0, none⟩), undef, selv l14 (.int .i64 q) (.int .i64 0), selv l15 (.bool (dotCmp k d == 0)) (.bool false), .int .i64 n, .int .i64 q, .int .i64 q, y11, y12, y13, y14, y15, y16, y17, y18, y19, y20, y21, y22, y23, y24, y25, y26, y27, y28, y29, y30, y31, y32, y33, y34, sel l0 (.int .i64 q), sel l1 (.int .i64 q), sel l2 (.int .i64 n), sel l3 (.bool true), sel l4 (.bool true), sel l5 (.func (.func 108) #[] #[]), sel l6 (.slice (some ⟨eb, 0, none⟩) n c), sel l7 (.int .i64 q), sel l8 (.pointer (some ⟨eb, q * 2, none⟩)), sel l9 (vDot k), sel l10 (vDot d), sel l11 (.int .i64 (dotCmp k d)), sel l12 (.bool (dotCmp k d == 0)), sel l13 (.bool (dotCmp k d == 0))], defers := [] } ∧ Aside0 (Bs w d V)
def bdfInv (w : World) (A : Option Addr) (B n c : Nat) (d : Dot) (y11 y12 y13 y14 y15 y16 y17 y18 y19 y20 y21 y22 y23 y24 y25 y26 y27 y28 y29 y30 y31 y32 y33 y34 : Value) (L : Array Bool) (ac : Act) (V : World) : Prop := ∃ (l0 l1 l2 l3 l4 l5 l6 l7 l8 l9 l10 l11 l12 l13 l14 l15 : Bool), L = #[l0, l1, l2, l3, l4, l5, l6, l7, l8, l9, l10, l11, l12, l13, l14, l15] ∧ ac = { tmps := #[.slice A n c, vDot d, .func (.func 108) #[] #[], undef, .pointer (some ⟨B, 0, none⟩), undef, selv l14 (.int .i64 n) (.int .i64 0), selv l15 (.bool false) (.bool false), .int .i64 n, .int .i64 n, .int .i64 n, y11, y12, y13, y14, y15, y16, y17, y18, y19, y20, y21, y22, y23, y24, y25, y26, y27, y28, y29, y30, y31, y32, y33, y34, sel l0 (.int .i64 n), sel l1 (.int .i64 n), sel l2 (.int .i64 n), sel l3 (.bool false), sel l4 (.bool false), sel l5 (undef), sel l6 (undef), sel l7 (undef), sel l8 (undef), sel l9 (undef), sel l10 (undef), sel l11 (undef), sel l12 (undef), sel l13 (.bool false)], defers := [] } ∧ Aside0 (Bs w d V)
set_option maxHeartbeats 2000000 in
set_option maxRecDepth 100000 in
theorem bsearchD_call (ks : List Dot) (A : Option Addr) (n c : Nat) (d : Dot) (w : World) (hs : incB ks = true) (he : EntsD w A n ks) :
  Calls Tryz.prog 124 #[.slice A n c, vDot d, .func (.func 108) #[] #[]] w fun e w' => e = .returned (.tuple #[.int .i64 (posK ks d), .bool (hasK ks d)]) ∧ Below w.heap.size w w' := by
 have HE := Aside0.mk he
 have HS := Aside0.mk hs
 have hn := he.small
 have HQN : Aside0 (posK ks d ≤ n) := ⟨by rw [← he.kl]; exact posK_le ks d⟩
 clear he hs
 obtain ⟨q, HQ⟩ : ∃ q, Aside0 (posK ks d = q) := ⟨_, ⟨rfl⟩⟩
 obtain ⟨hf, HHF⟩ : ∃ hf, Aside0 (hasK ks d = hf) := ⟨_, ⟨rfl⟩⟩
 rw [HQ.out, HHF.out]
 rw [HQ.out] at HQN
 have HB0 : Aside0 (Bs w d (w.alloc (.cells #[.int .i64 d.f0, .int .i64 d.f1] 24 (0, 0)))) := ⟨(Gr.alloc w _).below, blk_new _ _⟩
 go_enter Tryz.func124, Tryz.ntmps124
 go_wp2
 go_loopw [9, 10] (fun i j wr => ∃ i' j' : Nat, i' ≤ q ∧ q ≤ j' ∧ j' ≤ n ∧ i = .int .i64 i' ∧ j = .int .i64 j' ∧ Aside0 (Bs w d wr)) (fun i j _ => (intOf j - intOf i).toNat)
 case atStart => exact ⟨0, n, Nat.zero_le _, HQN.out, Nat.le_refl _, rfl, rfl, HB0⟩
 case round =>
  obtain ⟨i, j, hi, hj, hjn, rfl, rfl, HB⟩ := hrel
  clear HB0
  by_cases hlt : i < j
  ·
   have hlb : decide ((i : Int) < (j : Int)) = true := decide_eq_true (by omega)
   obtain ⟨h, Hh⟩ : ∃ h : Nat, h = (i + j) / 2 := ⟨_, rfl⟩
   have hm : ((i : Int) + (j : Int)) / 2 = (h : Int) := by omega
   have HH : Aside0 (h < n) := ⟨by omega⟩
   have HIJ : Aside0 (i ≤ h ∧ h < j) := ⟨by omega⟩
   clear Hh
   obtain ⟨k, eb, hk, rfl, c0, c1⟩ := HE.out.get HH.out
   have HC := Aside0.mk (And.intro c0 c1)
   have HL : Aside0 (dotLt k d = true ↔ h < q) := ⟨by rw [← HQ.out]; exact posK_iff HS.out d hk⟩
   clear c0 c1 hk
   go_wp2_with fail
   refine AnyOrder.wp_region (by kernel_rfl) (bdrInv w w.heap.size eb n c d i j h k (.slice (some ⟨eb, 0, none⟩) n c) (.int .i64 n) (.int .i64 n) (.int .i64 i) (.int .i64 j) (.bool true) (.int .i64 i) (.int .i64 j) (.int .i64 ((i : Int) + (j : Int))) (.int .u64 ((i : Int) + (j : Int))) (.int .u64 h) (.int .i64 h) u24 u25 u26 u27 u28 u29 u30 u31 u32 u33 u34) ⟨false, false, false, false, false, false, false, false, rfl, rfl, ⟨HB.out.drew⟩⟩ ?step ?last
   case step =>
    rintro L ac V i ⟨l0, l1, l2, l3, l4, l5, l6, l7, rfl, rfl, HF⟩ hi K hK
    have h1 : i = 0 ∨ i = 1 ∨ i = 2 ∨ i = 3 ∨ i = 4 ∨ i = 5 ∨ i = 6 ∨ i = 7 := by
     have h1 := (AnyOrder.mem_ready hi).1
     clear hi hK
     change i < 8 at h1
     omega
    rcases h1 with rfl | rfl | rfl | rfl | rfl | rfl | rfl | rfl
    ·
     obtain rfl : l0 = false := (AnyOrder.mem_ready hi).2.1
     clear hi
     refine AnyOrder.wpOp_go rfl (by rfl) ?_
     go_wp2_with fail
     exact ⟨true, l1, l2, l3, l4, l5, l6, l7, rfl, rfl, HF⟩
    ·
     obtain rfl : l1 = false := (AnyOrder.mem_ready hi).2.1
     clear hi
     refine AnyOrder.wpOp_go rfl (by rfl) ?_
     go_wp2_with fail
     exact ⟨l0, true, l2, l3, l4, l5, l6, l7, rfl, rfl, HF⟩
    ·
     obtain rfl : l2 = false := (AnyOrder.mem_ready hi).2.1
     clear hi
     refine AnyOrder.wpOp_go rfl (by rfl) ?_
     go_wp2_with fail
     exact ⟨l0, l1, true, l3, l4, l5, l6, l7, rfl, rfl, HF⟩
    ·
     obtain rfl : l3 = false := (AnyOrder.mem_ready hi).2.1
     obtain rfl : l1 = true := AnyOrder.dep (q := 0) hi rfl rfl rfl
     obtain rfl : l2 = true := AnyOrder.dep (q := 1) hi rfl rfl rfl
     clear hi
     simp only [sel_true, selv_true] at hK ⊢
     have hh := HH.out
     refine AnyOrder.wpOp_go rfl (by rfl) ?_
     go_wp2_with fail
     exact ⟨l0, true, true, true, l4, l5, l6, l7, rfl, rfl, HF⟩
    ·
     obtain rfl : l4 = false := (AnyOrder.mem_ready hi).2.1
     obtain rfl : l3 = true := AnyOrder.dep (q := 0) hi rfl rfl rfl
     clear hi
     simp only [sel_true, selv_true] at hK ⊢
     obtain ⟨q0, q1⟩ := HC.out
     have e0 : V.cell? ⟨eb, h * 2, none⟩ = _ := pw_cell_below HF.out.below q0
     have e1 : V.cell? ⟨eb, h * 2 + 1, none⟩ = _ := pw_cell_below HF.out.below q1
     clear q0 q1
     refine AnyOrder.wpOp_go rfl (by rfl) ?_
     go_wp2_with fail
     exact ⟨l0, l1, l2, true, true, l5, l6, l7, rfl, rfl, HF⟩
    ·
     obtain rfl : l5 = false := (AnyOrder.mem_ready hi).2.1
     clear hi
     have d0 : V.cell? ⟨w.heap.size, 0, none⟩ = _ := (blk_cell HF.out.box 0).trans rfl
     have d1 : V.cell? ⟨w.heap.size, 1, none⟩ = _ := (blk_cell HF.out.box 1).trans rfl
     refine AnyOrder.wpOp_go rfl (by rfl) ?_
     go_wp2_with fail
     exact ⟨l0, l1, l2, l3, l4, true, l6, l7, rfl, rfl, HF⟩
    ·
     obtain rfl : l6 = false := (AnyOrder.mem_ready hi).2.1
     obtain rfl : l0 = true := AnyOrder.dep (q := 0) hi rfl rfl rfl
     obtain rfl : l4 = true := AnyOrder.dep (q := 1) hi rfl rfl rfl
     obtain rfl : l5 = true := AnyOrder.dep (q := 2) hi rfl rfl rfl
     clear hi
     simp only [sel_true, selv_true] at hK ⊢
     refine AnyOrder.wpOp_go rfl (by rfl) ?_
     go_wp2_with fail
     refine (dotCmp_call k d V).mono ?_
     rintro e V' ⟨rfl, hb⟩
     exact hK _ _ ⟨true, l1, l2, l3, true, true, true, l7, rfl, rfl, ⟨HF.out.more hb.below⟩⟩
    ·
     obtain rfl : l7 = false := (AnyOrder.mem_ready hi).2.1
     obtain rfl : l6 = true := AnyOrder.dep (q := 0) hi rfl rfl rfl
     clear hi
     simp only [sel_true, selv_true] at hK ⊢
     refine AnyOrder.wpOp_go rfl (by rfl) ?_
     go_wp2_with fail
     exact ⟨l0, l1, l2, l3, l4, l5, true, true, rfl, rfl, HF⟩
   case last =>
    rintro L ac V ⟨l0, l1, l2, l3, l4, l5, l6, l7, rfl, rfl, HF⟩ hr
    have hall := AnyOrder.all_listed rfl (by kernel_rfl) hr
    clear hr
    obtain rfl : l0 = true := hall 0 (by decide)
    obtain rfl : l1 = true := hall 1 (by decide)
    obtain rfl : l2 = true := hall 2 (by decide)
    obtain rfl : l3 = true := hall 3 (by decide)
    obtain rfl : l4 = true := hall 4 (by decide)
    obtain rfl : l5 = true := hall 5 (by decide)
    obtain rfl : l6 = true := hall 6 (by decide)
    obtain rfl : l7 = true := hall 7 (by decide)
    clear hall
    simp only [sel_true, selv_true]
    clear hm
    rw [dotCmp_lt]
    cases hd : dotLt k d with
    | true =>
     have hw1 : wrap64 ((h : Int) + 1) = ((h + 1 : Nat) : Int) := by unfold wrap64; have := HH.out; omega
     have h2 := HL.out.1 hd
     have HIJ2 := HIJ.out
     clear hd
     go_wp2_with fail
     refine ⟨⟨h + 1, j, by omega, hj, hjn, by (first | rfl | (rw [hw1])), rfl, HF⟩, ?_⟩
     simp [intOf]; omega
    | false =>
     have h2 : ¬ h < q := fun e => by have := HL.out.2 e; rw [hd] at this; cases this
     have HIJ2 := HIJ.out
     clear hd
     go_wp2_with fail
     refine ⟨⟨i, h, hi, by omega, by omega, rfl, rfl, HF⟩, ?_⟩
     simp [intOf]; omega
  ·
   obtain rfl : q = i := by omega
   obtain rfl : q = j := by omega
   have hlb : decide ((q : Int) < (q : Int)) = false := decide_eq_false (by omega)
   by_cases hq : q < n
   ·
    have HH := Aside0.mk hq
    obtain ⟨k, eb, hk, rfl, c0, c1⟩ := HE.out.get HH.out
    have HC := Aside0.mk (And.intro c0 c1)
    have HR : Aside0 (hf = (dotCmp k d == 0)) := ⟨by rw [← HHF.out, hasK, HQ.out, hk, dotCmp_eq]; simp⟩
    clear c0 c1 hk
    go_wp2_with fail
    refine AnyOrder.wp_region (by kernel_rfl) (bdtInv w w.heap.size eb n c d q k u11 (.slice (some ⟨eb, 0, none⟩) n c) (.int .i64 n) (.int .i64 n) (.int .i64 q) (.int .i64 q) (.bool false) u18 u19 u20 u21 u22 u23 u24 u25 u26 u27 u28 u29 u30 u31 u32 u33 u34) ⟨false, false, false, false, false, false, false, false, false, false, false, false, false, false, false, false, rfl, rfl, ⟨HB.out.drew⟩⟩ ?step ?last
    case step =>
     rintro L ac V i ⟨l0, l1, l2, l3, l4, l5, l6, l7, l8, l9, l10, l11, l12, l13, l14, l15, rfl, rfl, HF⟩ hi K hK
     have h1 : i = 0 ∨ i = 1 ∨ i = 2 ∨ i = 3 ∨ i = 4 ∨ i = 5 ∨ i = 6 ∨ i = 7 ∨ i = 8 ∨ i = 9 ∨ i = 10 ∨ i = 11 ∨ i = 12 ∨ i = 13 ∨ i = 14 ∨ i = 15 := by
      have h1 := (AnyOrder.mem_ready hi).1
      clear hi hK
      change i < 16 at h1
      omega
     rcases h1 with rfl | rfl | rfl | rfl | rfl | rfl | rfl | rfl | rfl | rfl | rfl | rfl | rfl | rfl | rfl | rfl
     ·
      obtain rfl : l0 = false := (AnyOrder.mem_ready hi).2.1
      clear hi
      refine AnyOrder.wpOp_go rfl (by rfl) ?_
      go_wp2_with fail
      exact ⟨true, l1, l2, l3, l4, l5, l6, l7, l8, l9, l10, l11, l12, l13, l14, l15, rfl, rfl, HF⟩
     ·
      obtain rfl : l1 = false := (AnyOrder.mem_ready hi).2.1
      clear hi
      refine AnyOrder.wpOp_go rfl (by rfl) ?_
      go_wp2_with fail
      exact ⟨l0, true, l2, l3, l4, l5, l6, l7, l8, l9, l10, l11, l12, l13, l14, l15, rfl, rfl, HF⟩
     ·
      obtain rfl : l2 = false := (AnyOrder.mem_ready hi).2.1
      clear hi
      refine AnyOrder.wpOp_go rfl (by rfl) ?_
      go_wp2_with fail
      exact ⟨l0, l1, true, l3, l4, l5, l6, l7, l8, l9, l10, l11, l12, l13, l14, l15, rfl, rfl, HF⟩
     ·
      obtain rfl : l3 = false := (AnyOrder.mem_ready hi).2.1
      obtain rfl : l1 = true := AnyOrder.dep (q := 0) hi rfl rfl rfl
      obtain rfl : l2 = true := AnyOrder.dep (q := 1) hi rfl rfl rfl
      clear hi
      simp only [sel_true, selv_true] at hK ⊢
      have hh : decide ((q : Int) < (n : Int)) = true := decide_eq_true (by have := HH.out; omega)
      refine AnyOrder.wpOp_go rfl (by rfl) ?_
      go_wp2_with fail
      exact ⟨l0, true, true, true, l4, l5, l6, l7, l8, l9, l10, l11, l12, l13, l14, l15, rfl, rfl, HF⟩
     ·
      obtain rfl : l4 = false := (AnyOrder.mem_ready hi).2.1
      obtain rfl : l3 = true := AnyOrder.dep (q := 0) hi rfl rfl rfl
      clear hi
      simp only [sel_true, selv_true] at hK ⊢
      refine AnyOrder.wpOp_go rfl (by rfl) ?_
      go_wp2_with fail
      exact ⟨l0, l1, l2, true, true, l5, l6, l7, l8, l9, l10, l11, l12, l13, l14, l15, rfl, rfl, HF⟩
     ·
      obtain rfl : l5 = false := (AnyOrder.mem_ready hi).2.1
      obtain rfl : l4 = true := AnyOrder.dep (q := 0) hi rfl rfl rfl
      clear hi
      simp only [sel_true, selv_true] at hK ⊢
      refine AnyOrder.wpOp_go rfl (by rfl) ?_
      go_wp2_with fail
      exact ⟨l0, l1, l2, l3, true, true, l6, l7, l8, l9, l10, l11, l12, l13, l14, l15, rfl, rfl, HF⟩
     ·
      obtain rfl : l6 = false := (AnyOrder.mem_ready hi).2.1
      obtain rfl : l4 = true := AnyOrder.dep (q := 0) hi rfl rfl rfl
      clear hi
      simp only [sel_true, selv_true] at hK ⊢
      refine AnyOrder.wpOp_go rfl (by rfl) ?_
      go_wp2_with fail
      exact ⟨l0, l1, l2, l3, true, l5, true, l7, l8, l9, l10, l11, l12, l13, l14, l15, rfl, rfl, HF⟩
     ·
      obtain rfl : l7 = false := (AnyOrder.mem_ready hi).2.1
      obtain rfl : l4 = true := AnyOrder.dep (q := 0) hi rfl rfl rfl
      clear hi
      simp only [sel_true, selv_true] at hK ⊢
      refine AnyOrder.wpOp_go rfl (by rfl) ?_
      go_wp2_with fail
      exact ⟨l0, l1, l2, l3, true, l5, l6, true, l8, l9, l10, l11, l12, l13, l14, l15, rfl, rfl, HF⟩
     ·
      obtain rfl : l8 = false := (AnyOrder.mem_ready hi).2.1
      obtain rfl : l6 = true := AnyOrder.dep (q := 0) hi rfl rfl rfl
      obtain rfl : l7 = true := AnyOrder.dep (q := 1) hi rfl rfl rfl
      obtain rfl : l4 = true := AnyOrder.dep (q := 2) hi rfl rfl rfl
      clear hi
      simp only [sel_true, selv_true] at hK ⊢
      have hh := HH.out
      refine AnyOrder.wpOp_go rfl (by rfl) ?_
      go_wp2_with fail
      exact ⟨l0, l1, l2, l3, true, l5, true, true, true, l9, l10, l11, l12, l13, l14, l15, rfl, rfl, HF⟩
     ·
      obtain rfl : l9 = false := (AnyOrder.mem_ready hi).2.1
      obtain rfl : l8 = true := AnyOrder.dep (q := 0) hi rfl rfl rfl
      obtain rfl : l4 = true := AnyOrder.dep (q := 1) hi rfl rfl rfl
      clear hi
      simp only [sel_true, selv_true] at hK ⊢
      obtain ⟨q0, q1⟩ := HC.out
      have e0 : V.cell? ⟨eb, q * 2, none⟩ = _ := pw_cell_below HF.out.below q0
      have e1 : V.cell? ⟨eb, q * 2 + 1, none⟩ = _ := pw_cell_below HF.out.below q1
      clear q0 q1
      refine AnyOrder.wpOp_go rfl (by rfl) ?_
      go_wp2_with fail
      exact ⟨l0, l1, l2, l3, true, l5, l6, l7, true, true, l10, l11, l12, l13, l14, l15, rfl, rfl, HF⟩
     ·
      obtain rfl : l10 = false := (AnyOrder.mem_ready hi).2.1
      obtain rfl : l4 = true := AnyOrder.dep (q := 0) hi rfl rfl rfl
      clear hi
      simp only [sel_true, selv_true] at hK ⊢
      have d0 : V.cell? ⟨w.heap.size, 0, none⟩ = _ := (blk_cell HF.out.box 0).trans rfl
      have d1 : V.cell? ⟨w.heap.size, 1, none⟩ = _ := (blk_cell HF.out.box 1).trans rfl
      refine AnyOrder.wpOp_go rfl (by rfl) ?_
      go_wp2_with fail
      exact ⟨l0, l1, l2, l3, true, l5, l6, l7, l8, l9, true, l11, l12, l13, l14, l15, rfl, rfl, HF⟩
     ·
      obtain rfl : l11 = false := (AnyOrder.mem_ready hi).2.1
      obtain rfl : l5 = true := AnyOrder.dep (q := 0) hi rfl rfl rfl
      obtain rfl : l9 = true := AnyOrder.dep (q := 1) hi rfl rfl rfl
      obtain rfl : l10 = true := AnyOrder.dep (q := 2) hi rfl rfl rfl
      obtain rfl : l4 = true := AnyOrder.dep (q := 3) hi rfl rfl rfl
      clear hi
      simp only [sel_true, selv_true] at hK ⊢
      refine AnyOrder.wpOp_go rfl (by rfl) ?_
      go_wp2_with fail
      refine (dotCmp_call k d V).mono ?_
      rintro e V' ⟨rfl, hb⟩
      exact hK _ _ ⟨l0, l1, l2, l3, true, true, l6, l7, l8, true, true, true, l12, l13, l14, l15, rfl, rfl, ⟨HF.out.more hb.below⟩⟩
     ·
      obtain rfl : l12 = false := (AnyOrder.mem_ready hi).2.1
      obtain rfl : l11 = true := AnyOrder.dep (q := 0) hi rfl rfl rfl
      obtain rfl : l4 = true := AnyOrder.dep (q := 1) hi rfl rfl rfl
      clear hi
      simp only [sel_true, selv_true] at hK ⊢
      refine AnyOrder.wpOp_go rfl (by rfl) ?_
      go_wp2_with fail
      exact ⟨l0, l1, l2, l3, true, l5, l6, l7, l8, l9, l10, true, true, l13, l14, l15, rfl, rfl, HF⟩
     ·
      obtain rfl : l13 = false := (AnyOrder.mem_ready hi).2.1
      obtain rfl : l4 = true := AnyOrder.dep (q := 0) hi rfl rfl rfl
      obtain rfl : l12 = true := AnyOrder.dep (q := 1) hi rfl rfl rfl
      clear hi
      simp only [sel_true, selv_true] at hK ⊢
      refine AnyOrder.wpOp_go rfl (by rfl) ?_
      go_wp2_with fail
      exact ⟨l0, l1, l2, l3, true, l5, l6, l7, l8, l9, l10, l11, true, true, l14, l15, rfl, rfl, HF⟩
     ·
      obtain rfl : l14 = false := (AnyOrder.mem_ready hi).2.1
      obtain rfl : l0 = true := AnyOrder.dep (q := 0) hi rfl rfl rfl
      obtain rfl : l11 = true := AnyOrder.dep (q := 1) hi rfl rfl rfl
      clear hi
      simp only [sel_true, selv_true] at hK ⊢
      refine AnyOrder.wpOp_go rfl (by rfl) ?_
      go_wp2_with fail
      exact ⟨true, l1, l2, l3, l4, l5, l6, l7, l8, l9, l10, true, l12, l13, true, l15, rfl, rfl, HF⟩
     ·
      obtain rfl : l15 = false := (AnyOrder.mem_ready hi).2.1
      obtain rfl : l13 = true := AnyOrder.dep (q := 0) hi rfl rfl rfl
      obtain rfl : l14 = true := AnyOrder.dep (q := 1) hi rfl rfl rfl
      obtain rfl : l0 = true := AnyOrder.dep (q := 2) hi rfl rfl rfl
      obtain rfl : l1 = true := AnyOrder.dep (q := 3) hi rfl rfl rfl
      obtain rfl : l2 = true := AnyOrder.dep (q := 4) hi rfl rfl rfl
      obtain rfl : l3 = true := AnyOrder.dep (q := 5) hi rfl rfl rfl
      obtain rfl : l4 = true := AnyOrder.dep (q := 6) hi rfl rfl rfl
      obtain rfl : l5 = true := AnyOrder.dep (q := 7) hi rfl rfl rfl
      obtain rfl : l6 = true := AnyOrder.dep (q := 8) hi rfl rfl rfl
      obtain rfl : l7 = true := AnyOrder.dep (q := 9) hi rfl rfl rfl
      obtain rfl : l8 = true := AnyOrder.dep (q := 10) hi rfl rfl rfl
      obtain rfl : l9 = true := AnyOrder.dep (q := 11) hi rfl rfl rfl
      obtain rfl : l10 = true := AnyOrder.dep (q := 12) hi rfl rfl rfl
      obtain rfl : l11 = true := AnyOrder.dep (q := 13) hi rfl rfl rfl
      obtain rfl : l12 = true := AnyOrder.dep (q := 14) hi rfl rfl rfl
      clear hi
      simp only [sel_true, selv_true] at hK ⊢
      refine AnyOrder.wpOp_go rfl (by rfl) ?_
      go_wp2_with fail
      exact ⟨true, true, true, true, true, true, true, true, true, true, true, true, true, true, true, true, rfl, rfl, HF⟩
    case last =>
     rintro L ac V ⟨l0, l1, l2, l3, l4, l5, l6, l7, l8, l9, l10, l11, l12, l13, l14, l15, rfl, rfl, HF⟩ hr
     have hall := AnyOrder.all_listed rfl (by kernel_rfl) hr
     clear hr
     obtain rfl : l0 = true := hall 0 (by decide)
     obtain rfl : l1 = true := hall 1 (by decide)
     obtain rfl : l2 = true := hall 2 (by decide)
     obtain rfl : l3 = true := hall 3 (by decide)
     obtain rfl : l4 = true := hall 4 (by decide)
     obtain rfl : l5 = true := hall 5 (by decide)
     obtain rfl : l6 = true := hall 6 (by decide)
     obtain rfl : l7 = true := hall 7 (by decide)
     obtain rfl : l8 = true := hall 8 (by decide)
     obtain rfl : l9 = true := hall 9 (by decide)
     obtain rfl : l10 = true := hall 10 (by decide)
     obtain rfl : l11 = true := hall 11 (by decide)
     obtain rfl : l12 = true := hall 12 (by decide)
     obtain rfl : l13 = true := hall 13 (by decide)
     obtain rfl : l14 = true := hall 14 (by decide)
     obtain rfl : l15 = true := hall 15 (by decide)
     clear hall
     simp only [sel_true, selv_true]
     go_wp2
     refine bodyPost_ret (results_tmp2 rfl _ _ _) rfl ?_
     exact ⟨by rw [HR.out]; rfl, HF.out.below⟩
   ·
    obtain rfl : n = q := by omega
    have HR : Aside0 (hf = false) := ⟨by rw [← HHF.out, hasK, HQ.out, List.getElem?_eq_none (by rw [HE.out.kl]; exact Nat.le_refl _)]; rfl⟩
    go_wp2_with fail
    refine AnyOrder.wp_region (by kernel_rfl) (bdfInv w A w.heap.size n c d u11 (.slice A n c) (.int .i64 n) (.int .i64 n) (.int .i64 n) (.int .i64 n) (.bool false) u18 u19 u20 u21 u22 u23 u24 u25 u26 u27 u28 u29 u30 u31 u32 u33 u34) ⟨false, false, false, false, false, false, false, false, false, false, false, false, false, false, false, false, rfl, rfl, ⟨HB.out.drew⟩⟩ ?step ?last
    case step =>
     rintro L ac V i ⟨l0, l1, l2, l3, l4, l5, l6, l7, l8, l9, l10, l11, l12, l13, l14, l15, rfl, rfl, HF⟩ hi K hK
     have h1 : i = 0 ∨ i = 1 ∨ i = 2 ∨ i = 3 ∨ i = 4 ∨ i = 5 ∨ i = 6 ∨ i = 7 ∨ i = 8 ∨ i = 9 ∨ i = 10 ∨ i = 11 ∨ i = 12 ∨ i = 13 ∨ i = 14 ∨ i = 15 := by
      have h1 := (AnyOrder.mem_ready hi).1
      clear hi hK
      change i < 16 at h1
      omega
     rcases h1 with rfl | rfl | rfl | rfl | rfl | rfl | rfl | rfl | rfl | rfl | rfl | rfl | rfl | rfl | rfl | rfl
     ·
      obtain rfl : l0 = false := (AnyOrder.mem_ready hi).2.1
      clear hi
      refine AnyOrder.wpOp_go rfl (by rfl) ?_
      go_wp2_with fail
      exact ⟨true, l1, l2, l3, l4, l5, l6, l7, l8, l9, l10, l11, l12, l13, l14, l15, rfl, rfl, HF⟩
     ·
      obtain rfl : l1 = false := (AnyOrder.mem_ready hi).2.1
      clear hi
      refine AnyOrder.wpOp_go rfl (by rfl) ?_
      go_wp2_with fail
      exact ⟨l0, true, l2, l3, l4, l5, l6, l7, l8, l9, l10, l11, l12, l13, l14, l15, rfl, rfl, HF⟩
     ·
      obtain rfl : l2 = false := (AnyOrder.mem_ready hi).2.1
      clear hi
      refine AnyOrder.wpOp_go rfl (by rfl) ?_
      go_wp2_with fail
      exact ⟨l0, l1, true, l3, l4, l5, l6, l7, l8, l9, l10, l11, l12, l13, l14, l15, rfl, rfl, HF⟩
     ·
      obtain rfl : l3 = false := (AnyOrder.mem_ready hi).2.1
      obtain rfl : l1 = true := AnyOrder.dep (q := 0) hi rfl rfl rfl
      obtain rfl : l2 = true := AnyOrder.dep (q := 1) hi rfl rfl rfl
      clear hi
      simp only [sel_true, selv_true] at hK ⊢
      have hh : decide ((n : Int) < (n : Int)) = false := decide_eq_false (by omega)
      refine AnyOrder.wpOp_go rfl (by rfl) ?_
      go_wp2_with fail
      exact ⟨l0, true, true, true, l4, l5, l6, l7, l8, l9, l10, l11, l12, l13, l14, l15, rfl, rfl, HF⟩
     ·
      obtain rfl : l4 = false := (AnyOrder.mem_ready hi).2.1
      obtain rfl : l3 = true := AnyOrder.dep (q := 0) hi rfl rfl rfl
      clear hi
      simp only [sel_true, selv_true] at hK ⊢
      refine AnyOrder.wpOp_go rfl (by rfl) ?_
      go_wp2_with fail
      exact ⟨l0, l1, l2, true, true, l5, l6, l7, l8, l9, l10, l11, l12, l13, l14, l15, rfl, rfl, HF⟩
     ·
      obtain rfl : l5 = false := (AnyOrder.mem_ready hi).2.1
      obtain rfl : l4 = true := AnyOrder.dep (q := 0) hi rfl rfl rfl
      clear hi
      simp only [sel_true, selv_true] at hK ⊢
      refine AnyOrder.wpOp_out rfl (by rfl) ?_
      exact hK _ _ ⟨l0, l1, l2, l3, true, true, l6, l7, l8, l9, l10, l11, l12, l13, l14, l15, rfl, rfl, HF⟩
     ·
      obtain rfl : l6 = false := (AnyOrder.mem_ready hi).2.1
      obtain rfl : l4 = true := AnyOrder.dep (q := 0) hi rfl rfl rfl
      clear hi
      simp only [sel_true, selv_true] at hK ⊢
      refine AnyOrder.wpOp_out rfl (by rfl) ?_
      exact hK _ _ ⟨l0, l1, l2, l3, true, l5, true, l7, l8, l9, l10, l11, l12, l13, l14, l15, rfl, rfl, HF⟩
     ·
      obtain rfl : l7 = false := (AnyOrder.mem_ready hi).2.1
      obtain rfl : l4 = true := AnyOrder.dep (q := 0) hi rfl rfl rfl
      clear hi
      simp only [sel_true, selv_true] at hK ⊢
      refine AnyOrder.wpOp_out rfl (by rfl) ?_
      exact hK _ _ ⟨l0, l1, l2, l3, true, l5, l6, true, l8, l9, l10, l11, l12, l13, l14, l15, rfl, rfl, HF⟩
     ·
      obtain rfl : l8 = false := (AnyOrder.mem_ready hi).2.1
      obtain rfl : l4 = true := AnyOrder.dep (q := 2) hi rfl rfl rfl
      clear hi
      simp only [sel_true, selv_true] at hK ⊢
      refine AnyOrder.wpOp_out rfl (by rfl) ?_
      exact hK _ _ ⟨l0, l1, l2, l3, true, l5, l6, l7, true, l9, l10, l11, l12, l13, l14, l15, rfl, rfl, HF⟩
     ·
      obtain rfl : l9 = false := (AnyOrder.mem_ready hi).2.1
      obtain rfl : l4 = true := AnyOrder.dep (q := 1) hi rfl rfl rfl
      clear hi
      simp only [sel_true, selv_true] at hK ⊢
      refine AnyOrder.wpOp_out rfl (by rfl) ?_
      exact hK _ _ ⟨l0, l1, l2, l3, true, l5, l6, l7, l8, true, l10, l11, l12, l13, l14, l15, rfl, rfl, HF⟩
     ·
      obtain rfl : l10 = false := (AnyOrder.mem_ready hi).2.1
      obtain rfl : l4 = true := AnyOrder.dep (q := 0) hi rfl rfl rfl
      clear hi
      simp only [sel_true, selv_true] at hK ⊢
      refine AnyOrder.wpOp_out rfl (by rfl) ?_
      exact hK _ _ ⟨l0, l1, l2, l3, true, l5, l6, l7, l8, l9, true, l11, l12, l13, l14, l15, rfl, rfl, HF⟩
     ·
      obtain rfl : l11 = false := (AnyOrder.mem_ready hi).2.1
      obtain rfl : l4 = true := AnyOrder.dep (q := 3) hi rfl rfl rfl
      clear hi
      simp only [sel_true, selv_true] at hK ⊢
      refine AnyOrder.wpOp_out rfl (by rfl) ?_
      exact hK _ _ ⟨l0, l1, l2, l3, true, l5, l6, l7, l8, l9, l10, true, l12, l13, l14, l15, rfl, rfl, HF⟩
     ·
      obtain rfl : l12 = false := (AnyOrder.mem_ready hi).2.1
      obtain rfl : l4 = true := AnyOrder.dep (q := 1) hi rfl rfl rfl
      clear hi
      simp only [sel_true, selv_true] at hK ⊢
      refine AnyOrder.wpOp_out rfl (by rfl) ?_
      exact hK _ _ ⟨l0, l1, l2, l3, true, l5, l6, l7, l8, l9, l10, l11, true, l13, l14, l15, rfl, rfl, HF⟩
     ·
      obtain rfl : l13 = false := (AnyOrder.mem_ready hi).2.1
      obtain rfl : l4 = true := AnyOrder.dep (q := 0) hi rfl rfl rfl
      obtain rfl : l12 = true := AnyOrder.dep (q := 1) hi rfl rfl rfl
      clear hi
      simp only [sel_true, selv_true] at hK ⊢
      refine AnyOrder.wpOp_go rfl (by rfl) ?_
      go_wp2_with fail
      exact ⟨l0, l1, l2, l3, true, l5, l6, l7, l8, l9, l10, l11, true, true, l14, l15, rfl, rfl, HF⟩
     ·
      obtain rfl : l14 = false := (AnyOrder.mem_ready hi).2.1
      obtain rfl : l0 = true := AnyOrder.dep (q := 0) hi rfl rfl rfl
      obtain rfl : l11 = true := AnyOrder.dep (q := 1) hi rfl rfl rfl
      clear hi
      simp only [sel_true, selv_true] at hK ⊢
      refine AnyOrder.wpOp_go rfl (by rfl) ?_
      go_wp2_with fail
      exact ⟨true, l1, l2, l3, l4, l5, l6, l7, l8, l9, l10, true, l12, l13, true, l15, rfl, rfl, HF⟩
     ·
      obtain rfl : l15 = false := (AnyOrder.mem_ready hi).2.1
      obtain rfl : l13 = true := AnyOrder.dep (q := 0) hi rfl rfl rfl
      obtain rfl : l14 = true := AnyOrder.dep (q := 1) hi rfl rfl rfl
      obtain rfl : l0 = true := AnyOrder.dep (q := 2) hi rfl rfl rfl
      obtain rfl : l1 = true := AnyOrder.dep (q := 3) hi rfl rfl rfl
      obtain rfl : l2 = true := AnyOrder.dep (q := 4) hi rfl rfl rfl
      obtain rfl : l3 = true := AnyOrder.dep (q := 5) hi rfl rfl rfl
      obtain rfl : l4 = true := AnyOrder.dep (q := 6) hi rfl rfl rfl
      obtain rfl : l5 = true := AnyOrder.dep (q := 7) hi rfl rfl rfl
      obtain rfl : l6 = true := AnyOrder.dep (q := 8) hi rfl rfl rfl
      obtain rfl : l7 = true := AnyOrder.dep (q := 9) hi rfl rfl rfl
      obtain rfl : l8 = true := AnyOrder.dep (q := 10) hi rfl rfl rfl
      obtain rfl : l9 = true := AnyOrder.dep (q := 11) hi rfl rfl rfl
      obtain rfl : l10 = true := AnyOrder.dep (q := 12) hi rfl rfl rfl
      obtain rfl : l11 = true := AnyOrder.dep (q := 13) hi rfl rfl rfl
      obtain rfl : l12 = true := AnyOrder.dep (q := 14) hi rfl rfl rfl
      clear hi
      simp only [sel_true, selv_true] at hK ⊢
      refine AnyOrder.wpOp_go rfl (by rfl) ?_
      go_wp2_with fail
      exact ⟨true, true, true, true, true, true, true, true, true, true, true, true, true, true, true, true, rfl, rfl, HF⟩
    case last =>
     rintro L ac V ⟨l0, l1, l2, l3, l4, l5, l6, l7, l8, l9, l10, l11, l12, l13, l14, l15, rfl, rfl, HF⟩ hr
     have hall := AnyOrder.all_listed rfl (by kernel_rfl) hr
     clear hr
     obtain rfl : l0 = true := hall 0 (by decide)
     obtain rfl : l1 = true := hall 1 (by decide)
     obtain rfl : l2 = true := hall 2 (by decide)
     obtain rfl : l3 = true := hall 3 (by decide)
     obtain rfl : l4 = true := hall 4 (by decide)
     obtain rfl : l5 = true := hall 5 (by decide)
     obtain rfl : l6 = true := hall 6 (by decide)
     obtain rfl : l7 = true := hall 7 (by decide)
     obtain rfl : l8 = true := hall 8 (by decide)
     obtain rfl : l9 = true := hall 9 (by decide)
     obtain rfl : l10 = true := hall 10 (by decide)
     obtain rfl : l11 = true := hall 11 (by decide)
     obtain rfl : l12 = true := hall 12 (by decide)
     obtain rfl : l13 = true := hall 13 (by decide)
     obtain rfl : l14 = true := hall 14 (by decide)
     obtain rfl : l15 = true := hall 15 (by decide)
     clear hall
     simp only [sel_true, selv_true]
     go_wp2
     refine bodyPost_ret (results_tmp2 rfl _ _ _) rfl ?_
     exact ⟨by rw [HR.out]; rfl, HF.out.below⟩
theorem adjacent_inc : ∀ {ys : List Dot}, ys.Nodup → ys.Pairwise (fun a b => dotLt b a = false) → incB ys = true
 | [], _, _ => rfl
 | [_], _, _ => rfl
 | a :: b :: r, hn, hp => by
  obtain ⟨h1, h2⟩ := List.nodup_cons.1 hn
  obtain ⟨p1, p2⟩ := List.pairwise_cons.1 hp
  have hlt : dotLt a b = true := by
   cases h : dotLt a b with
   | true => rfl
   | false => exact absurd (by rw [dotLt_total h (p1 b List.mem_cons_self)]; exact List.mem_cons_self) h1
  simp only [incB, Bool.and_eq_true]
  exact ⟨hlt, adjacent_inc h2 p2⟩
theorem incB_ne {ys : List Dot} (h : incB ys = true) {k : Nat} {x y : Dot} (hx : ys[k]? = some x) (hy : ys[k + 1]? = some y) : x ≠ y := by
 intro e
 subst e
 have hn := incB_nodup h
 have h1 := (List.getElem?_eq_some_iff.1 hx).1
 have h2 := (List.getElem?_eq_some_iff.1 hy).1
 have := (List.getElem_inj (h₀ := h1) (h₁ := h2) hn).1 ((List.getElem?_eq_some_iff.1 hx).2.trans (List.getElem?_eq_some_iff.1 hy).2.symm)
 omega
def cpdInv (W0 : World) (ad : Addr) (n c0 k : Nat) (x y : Dot) (z1 z2 z4 z5 z6 z7 z8 z9 z10 z11 z12 z13 z14 z15 z16 z17 z18 z19 z20 z21 z22 z23 z24 z25 z26 z27 z28 z29 z30 z31 z32 z33 z34 z35 z36 z37 z38 z39 z40 z41 z42 z43 z44 z45 z46 z47 z48 z49 z50 z51 z52 z53 z54 z55 z56 z57 z58 z59 z60 : Value) (L : Array Bool) (ac : Act) (V : World) : Prop := ∃ (l0 l1 l2 l3 l4 l5 l6 l7 l8 l9 : Bool), L = #[l0, l1, l2, l3, l4, l5, l6, l7, l8, l9] ∧ ac = { tmps := #[.slice (some ad) n c0, z1, z2, .int .i64 ((k : Int) + 1), z4, z5, z6, z7, z8, z9, z10, z11, z12, z13, z14, z15, selv l0 (.slice (some ad) n c0) (z16), selv l1 (.int .i64 ((k : Int) + 1)) (z17), selv l2 (.pointer (some (ad.add ((k + 1) * 2)))) (z18), selv l3 (vDot y) (z19), selv l4 (.slice (some ad) n c0) (z20), selv l5 (.int .i64 ((k : Int) + 1)) (z21), selv l6 (.int .i64 (k : Int)) (z22), selv l7 (.pointer (some (ad.add (k * 2)))) (z23), selv l8 (vDot x) (z24), selv l9 (.bool false) (z25), z26, z27, z28, z29, z30, z31, z32, z33, z34, z35, z36, z37, z38, z39, z40, z41, z42, z43, z44, z45, z46, z47, z48, z49, z50, z51, z52, z53, z54, z55, z56, z57, z58, z59, z60], defers := [] } ∧ Aside0 (V = W0)
set_option maxHeartbeats 1000000 in
set_option maxRecDepth 100000 in
theorem compactD_call (A0 : Option Addr) (n c0 : Nat) (ds : List Dot) (w : World) (hn : ds.length = n) (hr0 : Kd.C k24 w A0 n ds) (hl : n ≤ 1000000) (hi : incB ds = true) :
  Calls Tryz.prog 149 #[.slice A0 n c0] w fun e w' => e = .returned (.slice A0 n c0) ∧ Below w.heap.size w w' := by
 have HR := Aside0.mk hr0
 have Hn := Aside0.mk hn
 have HI := Aside0.mk hi
 have HB0 : Aside0 (Below w.heap.size w w) := ⟨Below.refl _ _⟩
 clear hr0 hn hi
 go_enter Tryz.func149, Tryz.ntmps149
 by_cases h2 : n < 2
 ·
  have h2b : decide ((n : Int) < 2) = true := decide_eq_true (by omega)
  go_wp2
  go_ret
  exact ⟨rfl, Below.refl _ _⟩
 ·
  have h2b : decide ((n : Int) < 2) = false := decide_eq_false (by omega)
  go_wp2
  go_loopw [3] (fun i wr => ∃ k : Nat, k + 1 ≤ n ∧ i = .int .i64 ((k : Int) + 1) ∧ Aside0 (Below w.heap.size w wr)) (fun i _ => n - (intOf i).toNat)
  case atStart => exact ⟨0, by omega, rfl, HB0⟩
  case round =>
   obtain ⟨k, hk, rfl, HB⟩ := hrel
   by_cases hlt : k + 1 < n
   ·
    have hltb : decide ((k : Int) + 1 < (n : Int)) = true := decide_eq_true (by omega)
    obtain ⟨x, hx⟩ : ∃ x, Aside0 (ds[k]? = some x) := ⟨_, ⟨List.getElem?_eq_getElem (by have := Hn.out; omega)⟩⟩
    obtain ⟨y, hy⟩ : ∃ y, Aside0 (ds[k + 1]? = some y) := ⟨_, ⟨List.getElem?_eq_getElem (by have := Hn.out; omega)⟩⟩
    obtain ⟨ad, e, g0, g1⟩ := dot_at HR.out HB.out k x hx.out
    subst e
    obtain ⟨ad', e, y0, y1⟩ := dot_at HR.out HB.out (k + 1) y hy.out
    cases e
    have G0 : Aside0 (wr.drew.cell? (ad.add (k * 2)) = some (.int .i64 x.f0)) := ⟨g0⟩
    have G1 : Aside0 (wr.drew.cell? ⟨(ad.add (k * 2)).block, (ad.add (k * 2)).off + 1, none⟩ = some (.int .i64 x.f1)) := ⟨g1⟩
    have Y0 : Aside0 (wr.drew.cell? (ad.add ((k + 1) * 2)) = some (.int .i64 y.f0)) := ⟨y0⟩
    have Y1 : Aside0 (wr.drew.cell? ⟨(ad.add ((k + 1) * 2)).block, (ad.add ((k + 1) * 2)).off + 1, none⟩ = some (.int .i64 y.f1)) := ⟨y1⟩
    have HNE : Aside0 (¬ y = x) := ⟨fun e => incB_ne HI.out hx.out hy.out e.symm⟩
    have hgd : Aside0 (Below w.heap.size w wr.drew) := ⟨below_drew1 HB.out⟩
    have HLT : Aside0 (k + 1 < n ∧ n ≤ 1000000) := ⟨⟨hlt, hl⟩⟩
    clear g0 g1 y0 y1
    go_wp2
    clear hltb hlt hk h2b h2
    refine AnyOrder.wp_region (by kernel_rfl) (cpdInv wr.drew ad n c0 k x y _ _ _ _ _ _ _ _ _ _ _ _ _ _ _ _ _ _ _ _ _ _ _ _ _ _ _ _ _ _ _ _ _ _ _ _ _ _ _ _ _ _ _ _ _ _ _ _ _ _ _ _ _ _ _ _ _ _ _) ⟨false, false, false, false, false, false, false, false, false, false, rfl, rfl, ⟨rfl⟩⟩ ?step ?last
    case step =>
     rintro L ac V i ⟨l0, l1, l2, l3, l4, l5, l6, l7, l8, l9, rfl, rfl, HF⟩ hi K hK
     have h1 : i = 0 ∨ i = 1 ∨ i = 2 ∨ i = 3 ∨ i = 4 ∨ i = 5 ∨ i = 6 ∨ i = 7 ∨ i = 8 ∨ i = 9 := by
      have h1 := (AnyOrder.mem_ready hi).1
      clear hi hK
      change i < 10 at h1
      omega
     rcases h1 with rfl | rfl | rfl | rfl | rfl | rfl | rfl | rfl | rfl | rfl
     ·
      obtain rfl : l0 = false := (AnyOrder.mem_ready hi).2.1
      clear hi
      obtain rfl := HF.out
      refine AnyOrder.wpOp_go rfl (by rfl) ?_
      go_wp2_with fail
      exact ⟨true, l1, l2, l3, l4, l5, l6, l7, l8, l9, rfl, rfl, ⟨rfl⟩⟩
     ·
      obtain rfl : l1 = false := (AnyOrder.mem_ready hi).2.1
      clear hi
      obtain rfl := HF.out
      refine AnyOrder.wpOp_go rfl (by rfl) ?_
      go_wp2_with fail
      exact ⟨l0, true, l2, l3, l4, l5, l6, l7, l8, l9, rfl, rfl, ⟨rfl⟩⟩
     ·
      obtain rfl : l2 = false := (AnyOrder.mem_ready hi).2.1
      obtain rfl : l0 = true := AnyOrder.dep (q := 0) hi rfl rfl rfl
      obtain rfl : l1 = true := AnyOrder.dep (q := 1) hi rfl rfl rfl
      clear hi
      simp only [sel_true, selv_true] at hK ⊢
      obtain rfl := HF.out
      have hlt := HLT.out.1
      have hl := HLT.out.2
      have hk1 : ((k : Int) + 1).toNat = k + 1 := by omega
      refine AnyOrder.wpOp_go rfl (by rfl) ?_
      go_wp2_with fail
      exact ⟨true, true, true, l3, l4, l5, l6, l7, l8, l9, rfl, rfl, ⟨rfl⟩⟩
     ·
      obtain rfl : l3 = false := (AnyOrder.mem_ready hi).2.1
      obtain rfl : l2 = true := AnyOrder.dep (q := 0) hi rfl rfl rfl
      clear hi
      simp only [sel_true, selv_true] at hK ⊢
      obtain rfl := HF.out
      have g0 := Y0.out
      have g1 := Y1.out
      refine AnyOrder.wpOp_go rfl (by rfl) ?_
      go_wp2_with fail
      exact ⟨l0, l1, true, true, l4, l5, l6, l7, l8, l9, rfl, rfl, ⟨rfl⟩⟩
     ·
      obtain rfl : l4 = false := (AnyOrder.mem_ready hi).2.1
      clear hi
      obtain rfl := HF.out
      refine AnyOrder.wpOp_go rfl (by rfl) ?_
      go_wp2_with fail
      exact ⟨l0, l1, l2, l3, true, l5, l6, l7, l8, l9, rfl, rfl, ⟨rfl⟩⟩
     ·
      obtain rfl : l5 = false := (AnyOrder.mem_ready hi).2.1
      clear hi
      obtain rfl := HF.out
      refine AnyOrder.wpOp_go rfl (by rfl) ?_
      go_wp2_with fail
      exact ⟨l0, l1, l2, l3, l4, true, l6, l7, l8, l9, rfl, rfl, ⟨rfl⟩⟩
     ·
      obtain rfl : l6 = false := (AnyOrder.mem_ready hi).2.1
      obtain rfl : l5 = true := AnyOrder.dep (q := 0) hi rfl rfl rfl
      clear hi
      simp only [sel_true, selv_true] at hK ⊢
      obtain rfl := HF.out
      have hl := HLT.out
      have hw : wrap64 ((k : Int) + 1 - 1) = (k : Int) := by unfold wrap64; omega
      refine AnyOrder.wpOp_go rfl (by rfl) ?_
      go_wp2_with fail
      exact ⟨l0, l1, l2, l3, l4, true, true, l7, l8, l9, rfl, rfl, ⟨rfl⟩⟩
     ·
      obtain rfl : l7 = false := (AnyOrder.mem_ready hi).2.1
      obtain rfl : l4 = true := AnyOrder.dep (q := 0) hi rfl rfl rfl
      obtain rfl : l6 = true := AnyOrder.dep (q := 1) hi rfl rfl rfl
      clear hi
      simp only [sel_true, selv_true] at hK ⊢
      obtain rfl := HF.out
      have hlt := HLT.out.1
      have hl := HLT.out.2
      have hk1 : ((k : Int) + 1).toNat = k + 1 := by omega
      refine AnyOrder.wpOp_go rfl (by rfl) ?_
      go_wp2_with fail
      exact ⟨l0, l1, l2, l3, true, l5, true, true, l8, l9, rfl, rfl, ⟨rfl⟩⟩
     ·
      obtain rfl : l8 = false := (AnyOrder.mem_ready hi).2.1
      obtain rfl : l7 = true := AnyOrder.dep (q := 0) hi rfl rfl rfl
      clear hi
      simp only [sel_true, selv_true] at hK ⊢
      obtain rfl := HF.out
      have g0 := G0.out
      have g1 := G1.out
      refine AnyOrder.wpOp_go rfl (by rfl) ?_
      go_wp2_with fail
      exact ⟨l0, l1, l2, l3, l4, l5, l6, true, true, l9, rfl, rfl, ⟨rfl⟩⟩
     ·
      obtain rfl : l9 = false := (AnyOrder.mem_ready hi).2.1
      obtain rfl : l3 = true := AnyOrder.dep (q := 0) hi rfl rfl rfl
      obtain rfl : l8 = true := AnyOrder.dep (q := 1) hi rfl rfl rfl
      clear hi
      simp only [sel_true, selv_true] at hK ⊢
      obtain rfl := HF.out
      by_cases h0 : y.f0 = x.f0
      ·
       have h1 : ¬ y.f1 = x.f1 := fun h1 => HNE.out (Dot.ext_iff'.2 ⟨h0, h1⟩)
       refine AnyOrder.wpOp_go rfl (by rfl) ?_
       go_wp2_with fail
       exact ⟨l0, l1, l2, true, l4, l5, l6, l7, true, true, rfl, rfl, ⟨rfl⟩⟩
      refine AnyOrder.wpOp_go rfl (by rfl) ?_
      go_wp2_with fail
      exact ⟨l0, l1, l2, true, l4, l5, l6, l7, true, true, rfl, rfl, ⟨rfl⟩⟩
    case last =>
     rintro L ac V ⟨l0, l1, l2, l3, l4, l5, l6, l7, l8, l9, rfl, rfl, HF⟩ hr
     have hall := AnyOrder.all_listed rfl (by kernel_rfl) hr
     clear hr
     obtain rfl : l0 = true := hall 0 (by decide)
     obtain rfl : l1 = true := hall 1 (by decide)
     obtain rfl : l2 = true := hall 2 (by decide)
     obtain rfl : l3 = true := hall 3 (by decide)
     obtain rfl : l4 = true := hall 4 (by decide)
     obtain rfl : l5 = true := hall 5 (by decide)
     obtain rfl : l6 = true := hall 6 (by decide)
     obtain rfl : l7 = true := hall 7 (by decide)
     obtain rfl : l8 = true := hall 8 (by decide)
     obtain rfl : l9 = true := hall 9 (by decide)
     clear hall
     simp only [sel_true, selv_true]
     obtain rfl := HF.out
     have hlt2 := HLT.out
     go_wp2
     go_roundw
     case rel => exact ⟨k + 1, by omega, by go_num, hgd⟩
     case measure => simp [intOf] <;> omega
   ·
    obtain rfl : n = k + 1 := by omega
    have hltb : decide ((k : Int) + 1 < ((k + 1 : Nat) : Int)) = false := decide_eq_false (by omega)
    go_wp2
    go_ret
    exact ⟨rfl, HB.out⟩
end Go.Proofs.YtjlpaagnajmogaaGreat.PWalk
end
section
namespace Go.Proofs.YtjlpaagnajmogaaGreat.PWalk
open Go.RowKit Go.Proofs.YtjlpaagnajmogaaGreatW.PrintWords Go.Proofs.YtjlpaagnajmogaaGreatW.PrintLast Go.Proofs.YtjlpaagnajmogaaGreatW.PrintMore
set_option linter.unusedVariables false
set_option linter.unusedSimpArgs false
open Go.Shelf
attribute [local go_sem] Oper.semAt_some
theorem run_cut {P : Program} (t e : TypeId) (ti : TypeInfo) (A : Option Addr) (m c k : Nat) (W : World) (ht : P.underlying t = some (.slice e)) (hi : P.info? e = some ti) (hA : ∀ ad, A = some ad → ad.add 0 = ad) (hk : k ≤ c) :
  (Instr.sliceAt t (.slice A m c) none (some (.int .i64 (k : Int))) none).run P W = .ok (.slice A k c) W := by
 have he : P.elem t = e := by simp [Program.elem, ht]
 have ht' : P.underlying t = some (.slice (P.elem t)) := by rw [he]; exact ht
 have hs : (sizeOf e).run P W = .ok ti.size W := by simp [sizeOf, typeInfo, hi]
 rw [run_sliceAt_slice W t _ _ _ _ ht', run_slice_h W t A m c ht' .i64 (k : Int) (by omega) (by omega), he, hs]
 have hA2 : A.map (fun x => x.add 0) = A := by
  cases A with
  | none => rfl
  | some ad => simp [hA ad rfl]
 simp [sliced, hA2, Result.andThen]
theorem op_slice_in {K : Act → World → Prop} {Q : Exit → Act → World → Prop} {F : Fence} {n : Nat} {P : Program} {o : Oper} {a : Act} {W : World} (t : TypeId) (s i : Operand) (ho : o.op = .slice t s none (some i) none) {v u x : Value} (hs : a.eval s = v) (hx : a.eval i = u)
  (hrun : (Instr.sliceAt t v none (some u) none).run P W = .ok x W) (h : K (a.put o.dst x) W) : o.wpIn F n P a W K Q := by
 unfold Oper.wpIn
 refine ⟨by simp [Oper.about, ho], ?_⟩
 have he : o.semAt F.round a.eval = execOp a.eval o := by
  cases F.round with
  | none => simp [Oper.semAt]
  | some l => exact Oper.semAt_some l _ _ (by rw [ho]; intro c hc'; cases hc')
 rw [he]
 unfold execOp
 simp only [ho, Option.map_some, Option.map_none, hs, hx]
 simp [Result.andThen, Sem.run_bind, hrun, go_sem]
 exact h
theorem RD.cut {W : World} {base m c k : Nat} {A : Option Addr} {P : List Dot} (h : RD W base (.slice A m c) P) (hk : k ≤ P.length) : RD W base (.slice A k c) (P.take k) ∧ k ≤ c ∧ c ≤ maxLen ∧ (∀ ad, A = some ad → ad.add 0 = ad) := by
 have h' := dcells_of_R h
 have hl : (P.take k).length = k := by rw [List.length_take]; omega
 have hcells : (dcellsOf (P.take k)).length = k * 2 := by rw [dcellsOf_length, hl]
 have hsplit : dcellsOf P = dcellsOf (P.take k) ++ dcellsOf (P.drop k) := by rw [← dcellsOf_append, List.take_append_drop]
 rcases h'.2 with ⟨e, h0⟩ | ⟨g, c', cur, e, hb, hcur, h1, h2, h3, h4⟩
 ·
  cases e
  have hP : P = [] := List.length_eq_zero_iff.1 h0
  subst hP
  have hk0 : k = 0 := by simpa using hk
  subst hk0
  exact ⟨h, Nat.le_refl _, by decide, fun ad e => (by cases e)⟩
 ·
  cases e
  refine ⟨RD_of_cells ⟨by rw [dcellsOf_length], .inr ⟨g, _, cur, by rw [hl], hb, hcur, by rw [hl]; omega, h2, h3, ?_⟩⟩, by omega, h2, fun ad e => ?_⟩
  ·
   rw [hl, ← hcells]
   have h5 : (cur.toList.take (P.length * 2)).take (k * 2) = (dcellsOf P).take (k * 2) := by rw [h4]
   rw [List.take_take, Nat.min_eq_left (by omega), hsplit, ← hcells, List.take_left] at h5
   exact h5
  ·
   cases e; rw [add_lit]
/-- The operations of one round, by what has come up. -/
structure PaF (w W0 : World) (n₀ O Nb : Nat) (u : Value) (y : Node) (ys : List Dot) (l0 l4 l5 l6 l7 : Bool) (g : Nat) (u2 : Value) (V : World) : Prop where
 ord6 : l6 = true → l5 = true
 ord7 : l7 = true → l0 = true ∧ l4 = true ∧ l6 = true
 low : l7 = false → V.heap[O]? = some (outD u) ∧ V.heap[Nb]? = some (boxN y)
 pre : l6 = false → Gr W0 V
 ent : l5 = true → l6 = false → V.heap[g]? = some (dotC y.f0)
 mid : l6 = true → l7 = false → ∃ Vb, Gr W0 Vb ∧ Vb.grownBy V u.ownBlock ∧ RD V n₀ u2 ys ∧ (u2.ownBlock = u.ownBlock ∨ u2.ownBlock = some Vb.heap.size)
 fin : l7 = true → KeepsFrom n₀ W0 V ∧ KpT n₀ (fun i => i = O) W0 V ∧ CollD w n₀ O ys V ∧ V.heap[Nb]? = some (boxN y) ∧ W0.heap.size ≤ V.heap.size
theorem PaF.no7 {w W0 : World} {n₀ O Nb : Nat} {u : Value} {y : Node} {ys : List Dot} {l0 l4 l5 l6 l7 : Bool} {g : Nat} {u2 : Value} {V : World} (h : PaF w W0 n₀ O Nb u y ys l0 l4 l5 l6 l7 g u2 V) (hl : l0 = false ∨ l4 = false ∨ l6 = false) : l7 = false := by
 cases l7 with
 | false => rfl
 | true =>
  obtain ⟨h1, h2, h3⟩ := h.ord7 rfl
  subst h1 h2 h3
  simp at hl
theorem PaF.no6 {w W0 : World} {n₀ O Nb : Nat} {u : Value} {y : Node} {ys : List Dot} {l0 l4 l5 l6 l7 : Bool} {g : Nat} {u2 : Value} {V : World} (h : PaF w W0 n₀ O Nb u y ys l0 l4 l5 l6 l7 g u2 V) (hl : l5 = false) : l6 = false := by
 cases l6 with
 | false => rfl
 | true => have := h.ord6 rfl; rw [hl] at this; cases this
theorem PaF.app {w W0 : World} {n₀ O Nb : Nat} {u : Value} {y : Node} {ys : List Dot} {l0 l4 : Bool} {g : Nat} {u0 u2 : Value} {V V2 : World} (h : PaF w W0 n₀ O Nb u y ys l0 l4 true false false g u0 V) (hR : ∀ q, u.ownBlock = some q → ∃ cur, W0.heap[q]? = some (.cells cur 24 (0, 0)))
  (hg : V.grownBy V2 u.ownBlock) (hr : RD V2 n₀ u2 ys) (hat : u2.ownBlock = u.ownBlock ∨ u2.ownBlock = some V.heap.size) : PaF w W0 n₀ O Nb u y ys l0 l4 true true false g u2 V2 := by
 have hpre := h.pre rfl
 obtain ⟨h1, h2⟩ := h.low rfl
 have hne : ∀ q o, V.heap[q]? = some o → (∀ c, o ≠ .cells c 24 (0, 0)) → some q ≠ u.ownBlock := fun q o hq ho e => by
  obtain ⟨cur, hc⟩ := hR q e.symm
  have := hpre.blk hc
  rw [hq] at this
  exact ho _ (Option.some.inj this)
 exact ⟨fun _ => rfl, fun h => (by cases h), fun _ => ⟨(hg.block O (blk_lt h1) (hne O _ h1 (fun c e => by cases e))).trans h1, (hg.block Nb (blk_lt h2) (hne Nb _ h2 (fun c e => by cases e))).trans h2⟩, fun h => (by cases h), fun _ h => (by cases h), fun _ _ => ⟨V, hpre, hg, hr, hat⟩, fun h => (by cases h)⟩
theorem PaF.store {w W0 : World} {n₀ O Nb : Nat} {u : Value} {y : Node} {xs ys : List Dot} {l0 l4 : Bool} {g : Nat} {u2 : Value} {V : World} (h : PaF w W0 n₀ O Nb u y ys l0 l4 true true false g u2 V) (hn : w.heap.size ≤ n₀) (hOl : w.heap.size ≤ O) (h1 : W0.heap[O]? = some (outD u)) (h2 : RD W0 n₀ u xs) (h3 : Below w.heap.size w W0) (hnW : n₀ ≤ W0.heap.size) :
  PaF w W0 n₀ O Nb u y ys true true true true true g u2 (V.setCell ⟨O, 0, none⟩ u2) := by
 obtain ⟨Vb, hG, hg, hr, hat⟩ := h.mid rfl rfl
 obtain ⟨k1, k2, k3⟩ := CollD.put hn hOl h1 h2 h3 hG hg hr hat hnW
 obtain ⟨l1, l2⟩ := h.low rfl
 refine ⟨fun _ => rfl, fun _ => ⟨rfl, rfl, rfl⟩, fun h => (by cases h), fun h => (by cases h), fun _ h => (by cases h), fun _ h => (by cases h), fun _ => ⟨k1, k2, k3, (far_setCell fun e => ?_).trans l2, k1.size⟩⟩
 subst e
 rw [l1] at l2
 exact absurd (Obj.cells.inj (Option.some.inj l2)).2.1 (by decide)
abbrev outE (k : Int) : Obj := .cells #[.int .i64 k] 29 (0, 0)
/-- How the range stands, in Path. -/
structure PathI (w : World) (n₀ O B3 R4 R5 : Nat) (d : Dot) (P : List Dot) (W : World) : Prop where
 coll : CollD w n₀ O P W
 size : n₀ ≤ W.heap.size
 dot : W.heap[B3]? = some (dotC d)
 r4 : W.heap[R4]? = some (outD (.slice none 0 0))
 r5 : W.heap[R5]? = some (outE 0)
theorem PathI.mv {w : World} {n₀ c O B3 R4 R5 : Nat} {d : Dot} {P : List Dot} {W V : World} (h : PathI w n₀ O B3 R4 R5 d P W) (hm : ListRange.Mv ownT c W V) (hc : w.heap.size ≤ c) : PathI w n₀ O B3 R4 R5 d P V :=
 ⟨h.coll.mv hm hc, Nat.le_trans h.size hm.size, hm.far h.dot (by decide), hm.far h.r4 (by decide), hm.far h.r5 (by decide)⟩
theorem cells_walk {W V : World} {row : Option Nat} (hg : W.grownBy V row) (hr : ∀ r, row = some r → ∃ o : Obj, W.heap[r]? = some o ∧ o.isCells = false) {q t : Nat} {cells : Array Value} (hq : W.heap[q]? = some (Obj.cells cells t (0, 0))) : V.heap[q]? = some (Obj.cells cells t (0, 0)) :=
 (hg.block q (blk_lt hq) (fun e => by obtain ⟨o, ho, hc⟩ := hr q e.symm; rw [hq] at ho; cases ho; cases hc)).trans hq
theorem PathI.walk {w : World} {n₀ O B3 R4 R5 : Nat} {d : Dot} {P : List Dot} {W V : World} (h : PathI w n₀ O B3 R4 R5 d P W) {row : Option Nat} (hg : W.grownBy V row) (hr : ∀ r, row = some r → w.heap.size ≤ r ∧ ∃ o : Obj, W.heap[r]? = some o ∧ o.isCells = false) : PathI w n₀ O B3 R4 R5 d P V :=
 ⟨h.coll.walk hg hr, Nat.le_trans h.size hg.size, cells_walk hg (fun r e => (hr r e).2) h.dot, cells_walk hg (fun r e => (hr r e).2) h.r4, cells_walk hg (fun r e => (hr r e).2) h.r5⟩
theorem PathI.more {w : World} {n₀ O B3 R4 R5 : Nat} {d : Dot} {P : List Dot} {W V : World} (h : PathI w n₀ O B3 R4 R5 d P W) (hb : Below W.heap.size W V) : PathI w n₀ O B3 R4 R5 d P V :=
 ⟨h.coll.more hb, Nat.le_trans h.size hb.size, blk_keep h.dot hb, blk_keep h.r4 hb, blk_keep h.r5 hb⟩
/-- What a round has found. -/
structure PathX (w : World) (R4 R5 : Nat) (q : List Dot) (W : World) : Prop where
 row : ∃ v, W.heap[R4]? = some (outD v) ∧ RD W w.heap.size v q
 r5 : W.heap[R5]? = some (outE 0)
 below : Below w.heap.size w W
theorem PathX.mv {w : World} {c R4 R5 : Nat} {q : List Dot} {W V : World} (h : PathX w R4 R5 q W) (hm : ListRange.Mv ownT c W V) (hc : w.heap.size ≤ c) : PathX w R4 R5 q V := by
 obtain ⟨⟨v, h1, h2⟩, h3, h4⟩ := h
 exact ⟨⟨v, hm.far h1 (by decide), h2.keep fun g hg => by
  obtain ⟨_, cur, hcur⟩ := h2.block hg
  exact (hm.far hcur (by decide)).trans hcur.symm⟩, hm.far h3 (by decide), hm.on h4 hc⟩
theorem PathX.walk {w : World} {R4 R5 : Nat} {q : List Dot} {W V : World} (h : PathX w R4 R5 q W) {row : Option Nat} (hg : W.grownBy V row) (hr : ∀ r, row = some r → w.heap.size ≤ r ∧ ∃ o : Obj, W.heap[r]? = some o ∧ o.isCells = false) : PathX w R4 R5 q V := by
 obtain ⟨⟨v, h1, h2⟩, h3, h4⟩ := h
 exact ⟨⟨v, cells_walk hg (fun r e => (hr r e).2) h1, h2.keep fun g hgg => by obtain ⟨_, cur, hcur⟩ := h2.block hgg; exact (cells_walk hg (fun r e => (hr r e).2) hcur).trans hcur.symm⟩, cells_walk hg (fun r e => (hr r e).2) h3, h4.grown hg h4.size (fun k e => (hr k e).1)⟩
theorem walkP_take {l : List (Nat × Node)} {k : Nat} {x : Nat × Node} (h : l[k]? = some x) : walkP [] (l.take (k + 1)) = (walkP [] (l.take k)).take x.1 ++ [x.2.f0] := by
 have hk := (List.getElem?_eq_some_iff.1 h).1
 rw [List.take_succ_eq_append_getElem hk, (List.getElem?_eq_some_iff.1 h).2, walkP_append]; rfl
theorem ord_depth {l : List Node} (hs : Store l) {k : Nat} {x : Nat × Node} (h : (ordOf l)[k]? = some x) : x.1 ≤ (walkP [] ((ordOf l).take k)).length ∧ x.1 ≤ l.length := by
 have hk := (List.getElem?_eq_some_iff.1 h).1
 obtain ⟨V, v1, v2, v3⟩ := (ord_builds hs [] rfl).1 ((ordOf l).take k) x ((ordOf l).drop (k + 1)) (by rw [← (List.getElem?_eq_some_iff.1 h).2, ← List.drop_eq_getElem_cons hk, List.take_append_drop])
 have h1 := congrArg List.length v3
 rw [List.length_take, dotsR_length] at h1
 have := v1.le hs
 simp only [List.length_cons] at this
 omega
theorem walkP_le (L : List (Nat × Node)) : ∀ P, (walkP P L).length ≤ P.length + L.length := by
 induction L with
 | nil => intro P; exact Nat.le_refl _
 | cons p L ih =>
  intro P
  have := ih (P.take p.1 ++ [p.2.f0])
  rw [List.length_append, List.length_take, List.length_singleton] at this
  rw [show walkP P (p :: L) = walkP (P.take p.1 ++ [p.2.f0]) L from rfl, List.length_cons]
  omega
theorem run_loadVar_plain {P : Program} (w : World) (a : Addr) (ty : TypeId) (d : TypeDesc) (v : Value) (hu : P.underlying ty = some d) (hd : (match d with | .struct _ | .array _ _ => true | _ => false) = false) (hc : w.cell? a = some v) : (loadVar ty a).run P w = .ok v w := by
 have hagg : (isAgg ty).run P w = .ok false w := by
  unfold isAgg
  rw [Sem.run_bind, run_underlying hu w]
  cases d <;> simp_all
 simp [loadVar, Sem.run_bind, hagg, hc, go_sem]
theorem results_cells2 {P : Program} {fn : Func} {p q : Tmp} {ty ty' : TypeId} (h : fn.results = #[.cell p ty, .cell q ty']) (tmps : Array Value) (w : World) (a b : Addr) (v u : Value) (hp : tmps.getD p undef = .pointer (some a)) (hq : tmps.getD q undef = .pointer (some b))
  (h1 : (loadVar ty a).run P w = .ok v w) (h2 : (loadVar ty' b).run P w = .ok u w) : (results fn tmps).run P w = .ok (.tuple #[v, u]) w := by
 have hp' : tmps[p]?.getD undef = .pointer (some a) := by simpa using hp
 have hq' : tmps[q]?.getD undef = .pointer (some b) := by simpa using hq
 simp [results, h, hp', hq', asAddr, h1, h2, Sem.run_bind]
abbrev put2 (W : World) (R4 R5 : Nat) (v : Value) (k : Int) : World := (W.setCell ⟨R4, 0, none⟩ v).setCell ⟨R5, 0, none⟩ (.int .i64 k)
structure Put2 (W : World) (R4 R5 : Nat) (v : Value) (k k0 : Int) : Prop where
 mid : (W.setCell ⟨R4, 0, none⟩ v).heap[R5]? = some (outE k0)
 r4 : (put2 W R4 R5 v k).heap[R4]? = some (outD v)
 r5 : (put2 W R4 R5 v k).heap[R5]? = some (outE k)
 far : ∀ q, q ≠ R4 → q ≠ R5 → (put2 W R4 R5 v k).heap[q]? = W.heap[q]?
 size : (put2 W R4 R5 v k).heap.size = W.heap.size
theorem Put2.mk' {W : World} {R4 R5 : Nat} {v0 : Value} {k0 : Int} (h4 : W.heap[R4]? = some (outD v0)) (h5 : W.heap[R5]? = some (outE k0)) (v : Value) (k : Int) : Put2 W R4 R5 v k k0 := by
 have hne : R4 ≠ R5 := fun e => by
  subst e
  rw [h4] at h5
  exact absurd (Obj.cells.inj (Option.some.inj h5)).2.1 (by decide)
 have h5' : (W.setCell ⟨R4, 0, none⟩ v).heap[R5]? = some (outE k0) := (far_setCell (Ne.symm hne)).trans h5
 exact ⟨h5', (far_setCell hne).trans (blk_set h4 0 v), blk_set h5' 0 _, fun q h1 h2 => (far_setCell h2).trans (far_setCell h1), by rw [World.size_setCell, World.size_setCell]⟩
theorem Put2.below {w W : World} {R4 R5 : Nat} (hb : Below w.heap.size w W) (h4 : w.heap.size ≤ R4) (h5 : w.heap.size ≤ R5) (v : Value) (k : Int) : Below w.heap.size w (put2 W R4 R5 v k) := below_setCell (below_setCell hb h4 0 v) h5 0 _
theorem results_path {fn : Func} (h : fn.results = #[.cell 4 41, .cell 5 29]) (tmps : Array Value) (W : World) (R4 R5 : Nat) (v : Value) (k : Int) (h4 : tmps.getD 4 undef = .pointer (some ⟨R4, 0, none⟩)) (h5 : tmps.getD 5 undef = .pointer (some ⟨R5, 0, none⟩))
  (b4 : W.heap[R4]? = some (outD v)) (b5 : W.heap[R5]? = some (outE k)) : (results fn tmps).run Tryz.prog W = .ok (.tuple #[v, .int .i64 k]) W :=
 results_cells2 h tmps W _ _ _ _ h4 h5 (run_loadVar_plain W _ _ _ _ Tryz.underlying41 rfl ((blk_cell b4 0).trans rfl)) (run_loadVar_plain W _ _ _ _ Tryz.underlying29 rfl ((blk_cell b5 0).trans rfl))
def pathInv (w W0 : World) (n₀ O Nb : Nat) (A : Option Addr) (m c x0 : Nat) (y : Node) (ys : List Dot) (z0 z1 z2 z3 z4 z5 z9 z10 z11 z12 z13 z14 z15 z16 z17 z18 z19 z20 z21 z22 z23 z24 z25 z26 z27 z28 z29 z30 z31 z32 z33 : Value) (L : Array Bool) (ac : Act) (V : World) : Prop := ∃ (l0 l1 l2 l3 l4 l5 l6 l7 : Bool) (g : Nat) (u2 : Value), L = #[l0, l1, l2, l3, l4, l5, l6, l7] ∧ ac = { tmps := #[z0, z1, z2, z3, z4, z5, .pointer (some ⟨O, 0, none⟩), .int .i64 (x0 : Int), .pointer (some ⟨Nb, 0, none⟩), z9, z10, z11, z12, z13, z14, z15, z16, z17, z18, z19, z20, selv l0 (.slice A m c) (z21), selv l1 (.int .i64 (x0 : Int)) (z22), selv l2 (.slice A x0 c) (z23), selv l3 (.pointer (some ⟨Nb, 0, none⟩)) (z24), selv l4 (vDot y.f0) (z25), selv l5 (.slice (some ⟨g, 0, none⟩) 1 1) (z26), selv l6 (u2) (z27), z28, z29, z30, z31, z32, z33], defers := [] } ∧ Aside0 (PaF w W0 n₀ O Nb (.slice A m c) y ys l0 l4 l5 l6 l7 g u2 V)
set_option maxHeartbeats 2000000 in
set_option maxRecDepth 100000 in
theorem walk_Path.calls (A0 : Option Addr) (c0 : Nat) (ll : List Node) (a1_0 a1_1 : Int) (r0 : List Dot) (r1 : Int) (w : World) (hr0 : Kd.C k35 w A0 ll.length ll) (hc0 : ll.length ≤ c0) (h : walk_Path.f ll a1_0 a1_1 = some (r0, r1)) :
  Calls Tryz.prog 33 #[.slice A0 ll.length c0, .agg #[.int .i64 a1_0, .int .i64 a1_1]] w fun e w' => ∃ v0_ : Value, e = .returned (.tuple #[v0_, .int .i64 r1]) ∧ Kd.R k24 24 w' w.heap.size (fun _ => True) v0_ r0 ∧ Below w.heap.size w w' := by
 obtain ⟨d, hd⟩ : ∃ d : Dot, d = ⟨a1_0, a1_1⟩ := ⟨_, rfl⟩
 unfold walk_Path.f at h
 rw [← hd] at h
 rw [show a1_0 = d.f0 by rw [hd], show a1_1 = d.f1 by rw [hd]]
 clear hd
 by_cases hl : ll.length ≤ 1000000
 rotate_left
 ·
  rw [if_neg hl] at h; cases h
 rw [if_pos hl] at h
 have HR := Aside0.mk hr0
 have HC := Aside0.mk hc0
 have HL := Aside0.mk hl
 have HH := Aside0.mk (Option.some.inj h)
 clear h hr0 hc0 hl
 obtain ⟨n, Hn⟩ : ∃ n, Aside0 (ll.length = n) := ⟨_, ⟨rfl⟩⟩
 obtain ⟨b, Hb⟩ : ∃ b, Aside0 (storeOk ll = b) := ⟨_, ⟨rfl⟩⟩
 have hgr : Gr w (((w.alloc (dotC d)).alloc (outD (.slice none 0 0))).alloc (outE 0)) := ((Gr.alloc _ _).trans (Gr.alloc _ _)).trans (Gr.alloc _ _)
 have HB0 := Aside0.mk hgr.below
 have HB3 : Aside0 ((((w.alloc (dotC d)).alloc (outD (.slice none 0 0))).alloc (outE 0)).heap[w.heap.size]? = some (dotC d)) := ⟨blk_alloc (blk_alloc (blk_new _ _) _) _⟩
 have HR4 : Aside0 ((((w.alloc (dotC d)).alloc (outD (.slice none 0 0))).alloc (outE 0)).heap[w.heap.size + 1]? = some (outD (.slice none 0 0))) := ⟨blk_alloc (by have := blk_new (w.alloc (dotC d)) (outD (.slice none 0 0)); rwa [World.size_alloc] at this) _⟩
 have HR5 : Aside0 ((((w.alloc (dotC d)).alloc (outD (.slice none 0 0))).alloc (outE 0)).heap[w.heap.size + 1 + 1]? = some (outE 0)) := ⟨by have := blk_new ((w.alloc (dotC d)).alloc (outD (.slice none 0 0))) (outE 0); rwa [World.size_alloc, World.size_alloc] at this⟩
 have hval := store_Valid.calls A0 c0 ll b _ (Kd.C_below HR.out HB0.out) HC.out (by unfold store_Valid.f; rw [if_pos HL.out, Hb.out])
 rw [Hn.out] at hval ⊢
 have HV := Aside0.mk hval
 clear hval hgr
 refine calls_of_wp_m Tryz.func33 rfl ?_
 simp only [Tryz.ntmps33, List.size_toArray, List.length_cons, List.length_nil, Nat.reduceAdd, Nat.reduceSub, Array.replicate_succ, Array.replicate_zero, List.push_toArray, List.append_toArray, List.nil_append, List.cons_append]
 go_wp2_with fail
 refine HV.out.mono ?_
 rintro e w1 ⟨rfl, hb⟩
 have HB := Aside0.mk (below_more HB0.out hb)
 have HB3 := Aside0.mk (blk_keep HB3.out hb)
 have HR4 := Aside0.mk (blk_keep HR4.out hb)
 have HR5 := Aside0.mk (blk_keep HR5.out hb)
 clear hb HV HB0
 obtain ⟨B3, HBe⟩ : ∃ B3, Aside0 (w.heap.size = B3) := ⟨_, ⟨rfl⟩⟩
 obtain ⟨R4, H4e⟩ : ∃ R4, Aside0 (w.heap.size + 1 = R4) := ⟨_, ⟨rfl⟩⟩
 obtain ⟨R5, H5e⟩ : ∃ R5, Aside0 (w.heap.size + 1 + 1 = R5) := ⟨_, ⟨rfl⟩⟩
 rw [HBe.out] at HB3
 rw [H4e.out] at HR4
 rw [H5e.out] at HR5
 rw [show (Value.pointer (some { block := w.heap.size + 1 + 1, off := 0 })) = .pointer (some ⟨R5, 0, none⟩) by rw [H5e.out], show (Value.pointer (some { block := w.heap.size + 1, off := 0 })) = .pointer (some ⟨R4, 0, none⟩) by rw [H4e.out], show (Value.pointer (some { block := w.heap.size, off := 0 })) = .pointer (some ⟨B3, 0, none⟩) by rw [HBe.out]]
 have HLO : Aside0 (w.heap.size ≤ B3 ∧ w.heap.size ≤ R4 ∧ w.heap.size ≤ R5 ∧ R4 ≠ R5) := ⟨by have h1 := HBe.out; have h2 := H4e.out; have h3 := H5e.out; omega⟩
 cases b with
 | false =>
  have hrr : r0 = [] ∧ r1 = 2 := by
   have := HH.out
   rw [if_neg (by rw [Hb.out]; simp)] at this
   exact ⟨(Prod.mk.inj this).1.symm, (Prod.mk.inj this).2.symm⟩
  obtain ⟨rfl, rfl⟩ := hrr
  have HP := Aside0.mk (Put2.mk' HR4.out HR5.out (.slice none 0 0) 2)
  have hp5 := HP.out.mid
  have f5' := blk_frozen hp5 0
  have c5' : (World.setCell _ ⟨R4, 0, none⟩ (.slice none 0 0)).cell? ⟨R5, 0, none⟩ = _ := (blk_cell hp5 0).trans rfl
  have f4 := blk_frozen HR4.out 0
  have c4 : World.cell? _ ⟨R4, 0, none⟩ = _ := (blk_cell HR4.out 0).trans rfl
  go_wp2
  exact ⟨_, results_path rfl _ _ R4 R5 _ 2 rfl rfl HP.out.r4 HP.out.r5, _, rfl, Kd.R_nil _ _ _ _ _, Put2.below HB.out HLO.out.2.1 HLO.out.2.2.1 _ _⟩
 | true =>
  have k0 : w1.cell? ⟨B3, 0, none⟩ = _ := (blk_cell HB3.out 0).trans rfl
  have k1 : w1.cell? ⟨B3, 1, none⟩ = _ := (blk_cell HB3.out 1).trans rfl
  have HS : Aside0 (Store ll) := ⟨store_of Hb.out⟩
  obtain ⟨b2, Hb2⟩ : ∃ b2, Aside0 (dotOk d = b2) := ⟨_, ⟨rfl⟩⟩
  go_wp2_with fail
  refine (dot_Valid.calls d.f0 d.f1 (dotOk d) w1 (dotValid_is d.f0 d.f1)).mono ?_
  rintro e w2 ⟨rfl, hb⟩
  have HB := Aside0.mk (below_more HB.out hb)
  have HB3 := Aside0.mk (blk_keep HB3.out hb)
  have HR4 := Aside0.mk (blk_keep HR4.out hb)
  have HR5 := Aside0.mk (blk_keep HR5.out hb)
  clear hb k0 k1
  rw [Hb2.out]
  cases b2 with
  | false =>
   have hrr : r0 = [] ∧ r1 = 2 := by
    have := HH.out
    rw [if_neg (by rw [Hb2.out]; simp)] at this
    exact ⟨(Prod.mk.inj this).1.symm, (Prod.mk.inj this).2.symm⟩
   obtain ⟨rfl, rfl⟩ := hrr
   have HP := Aside0.mk (Put2.mk' HR4.out HR5.out (.slice none 0 0) 2)
   have hp5 := HP.out.mid
   have f5' := blk_frozen hp5 0
   have c5' : (World.setCell _ ⟨R4, 0, none⟩ (.slice none 0 0)).cell? ⟨R5, 0, none⟩ = _ := (blk_cell hp5 0).trans rfl
   have f4 := blk_frozen HR4.out 0
   have c4 : World.cell? _ ⟨R4, 0, none⟩ = _ := (blk_cell HR4.out 0).trans rfl
   go_wp2
   exact ⟨_, results_path rfl _ _ R4 R5 _ 2 rfl rfl HP.out.r4 HP.out.r5, _, rfl, Kd.R_nil _ _ _ _ _, Put2.below HB.out HLO.out.2.1 HLO.out.2.2.1 _ _⟩
  | true =>
   have HRR := Aside0.mk HH.out
   have HDN : Aside0 (d ≠ ⟨0, 0⟩) := ⟨fun e => by have := Hb2.out; rw [e] at this; revert this; decide⟩
   have HAF := Aside0.mk (all_fn A0 n c0 ll (w2.alloc (outD (.slice none 0 0))) Hn.out (by rw [← Hn.out]; exact Kd.C_below HR.out (below_alloc HB.out _)) (by rw [← Hn.out]; exact HC.out) HL.out)
   have HO := Aside0.mk (blk_new w2 (outD (.slice none 0 0)))
   have HW2 : Aside0 (w.heap.size ≤ w2.heap.size) := ⟨HB.out.size⟩
   have HLT : Aside0 (B3 < w2.heap.size ∧ R4 < w2.heap.size ∧ R5 < w2.heap.size) := ⟨blk_lt HB3.out, blk_lt HR4.out, blk_lt HR5.out⟩
   have HB := Aside0.mk (below_alloc HB.out (outD (.slice none 0 0)))
   have HB3 := Aside0.mk (blk_alloc HB3.out (outD (.slice none 0 0)))
   have HR4 := Aside0.mk (blk_alloc HR4.out (outD (.slice none 0 0)))
   have HR5 := Aside0.mk (blk_alloc HR5.out (outD (.slice none 0 0)))
   go_wp2_with fail
   refine HAF.out.mono ?_
   rintro e w3 ⟨Fb, mp, rfl, hF, hfam, hb⟩
   rw [if_pos Hb.out] at hfam
   have HO2 := Aside0.mk (blk_keep HO.out hb)
   have HF2 := Aside0.mk hF
   have HFM := Aside0.mk hfam
   have HB := Aside0.mk (below_more HB.out hb)
   have HB3 := Aside0.mk (blk_keep HB3.out hb)
   have HR4 := Aside0.mk (blk_keep HR4.out hb)
   have HR5 := Aside0.mk (blk_keep HR5.out hb)
   have HOW : Aside0 (w.heap.size ≤ w2.heap.size ∧ w2.heap.size < w3.heap.size ∧ B3 ≠ w2.heap.size ∧ R4 ≠ w2.heap.size ∧ R5 ≠ w2.heap.size ∧ B3 < w3.heap.size ∧ R4 < w3.heap.size ∧ R5 < w3.heap.size) := ⟨HW2.out, blk_lt HO2.out, Nat.ne_of_lt HLT.out.1, Nat.ne_of_lt HLT.out.2.1, Nat.ne_of_lt HLT.out.2.2, blk_lt HB3.out, blk_lt HR4.out, blk_lt HR5.out⟩
   clear hF hfam hb HO HAF
   obtain ⟨O, HOe⟩ : ∃ O, Aside0 (w2.heap.size = O) := ⟨_, ⟨rfl⟩⟩
   rw [HOe.out] at HO2 HOW ⊢
   go_wp2_with fail
   refine wpIn_wide.1 (ListRange.wpIn_move (n := 10) (F := Fence.wide) rfl (by decide) (gf := 114) (lb := #[.pointer (some ⟨Fb, 0, none⟩)]) rfl trivial Tryz.call114
    (encs := fun x : Nat × Node => #[.int .i64 (x.1 : Int), vNode x.2]) (Kp := KpT w3.heap.size (fun i => i = O)) (L := ordOf ll) (w0 := w3) ownT
    (all_moves _ mp Fb (fun i => i = O) ll w3 HS.out HL.out HF2.out HFM.out (fun i c t e hc => by subst e; rw [HO2.out] at hc; cases hc; exact .inr (.inl rfl)))
    (fun h k => h.trans k) (fun W l o o' hl ho hc _ => KpT.put (Nat.le_refl _) W l o o' hl ho hc) (Below.refl _ _) (fun _ => rfl)
    (fun k W => PathI w w3.heap.size O B3 R4 R5 d (walkP [] ((ordOf ll).take k)) W ∧ findWay d ((ordOf ll).drop k) (walkP [] ((ordOf ll).take k)) = findWay d (ordOf ll) [])
    (fun c k W => c = .ret ∧ ∃ q, PathX w R4 R5 q W ∧ findWay d (ordOf ll) [] = some q)
    (fun k W W' row hs hg hr => ⟨hs.1.walk hg (fun r e => ⟨Nat.le_trans HB.out.size (hr r e).1, (hr r e).2⟩), hs.2⟩) (fun c k W W' row hs hg hr => ⟨hs.1, hs.2.imp fun q hq => ⟨hq.1.walk hg (fun r e => ⟨Nat.le_trans HB.out.size (hr r e).1, (hr r e).2⟩), hq.2⟩⟩)
    (fun k A B hm hs => ⟨hs.1.mv hm HB.out.size, hs.2⟩) (fun c k A B hm hs => ⟨hs.1, hs.2.imp fun q hq => ⟨hq.1.mv hm HB.out.size, hq.2⟩⟩)
    ⟨⟨⟨⟨_, HO2.out, Kd.R_nil _ _ _ _ _⟩, HB.out⟩, Nat.le_refl _, HB3.out, HR4.out, HR5.out⟩, rfl⟩
    (fun x a' W => ∃ Nb, w3.heap.size ≤ Nb ∧ W.heap[Nb]? = some (boxN x.2) ∧ a' = { tmps := #[.slice A0 n c0, vDot d, undef, .pointer (some ⟨B3, 0, none⟩), .pointer (some ⟨R4, 0, none⟩), .pointer (some ⟨R5, 0, none⟩), .pointer (some ⟨O, 0, none⟩), .int .i64 (x.1 : Int), .pointer (some ⟨Nb, 0, none⟩), .slice A0 n c0, .bool true, .bool false, .bool false, vDot d, .bool true, .bool false, .bool false, .slice A0 n c0, .func (.func 114) #[] #[.pointer (some ⟨Fb, 0, none⟩)], .int .i64 (x.1 : Int), vNode x.2, undef, undef, undef, undef, undef, undef, undef, undef, undef, undef, undef, undef, undef], defers := [] })
    (fun x a' _ W W' row hs hg hr => by
     obtain ⟨Nb, h1, h2, h3⟩ := hs
     exact ⟨Nb, h1, cells_walk hg (fun r e => (hr r e).2) h2, h3⟩)
    ?assign ?body ?done ?stop)
   case assign =>
    rintro lp k x W K hx ⟨h1, h2⟩ hK
    gi_wp2
    exact hK _ _ ((KeepsOthers.alloc _ _).from _) (KpT.below (Gr.alloc W _).below h1.size) ⟨h1.more (Gr.alloc W _).below, h2⟩ ⟨W.heap.size, h1.size, blk_new _ _, rfl⟩
   case body =>
    rintro lp k x a' W hx hl2 ⟨rr, hrr⟩ ⟨h1, h2⟩ ⟨Nb, hx1, hx2, rfl⟩
    obtain ⟨u, hu1, hu2⟩ := h1.coll.out
    obtain ⟨A, c, rfl⟩ := hu2.slice
    obtain ⟨hdp, hdl⟩ := ord_depth HS.out hx
    obtain ⟨hcut, hkc, hcm, hadd⟩ := hu2.cut hdp
    have HWL : Aside0 ((walkP [] ((ordOf ll).take (k + 1))).length ≤ 1000000) := ⟨by
     have h3 := walkP_le ((ordOf ll).take (k + 1)) []
     have h4 := ord_le HS.out
     have h5 := HL.out
     rw [List.length_take, List.length_nil] at h3
     omega⟩
    have HW' : Aside0 (walkP [] ((ordOf ll).take (k + 1)) = (walkP [] ((ordOf ll).take k)).take x.1 ++ [x.2.f0]) := ⟨walkP_take hx⟩
    have hlen : (walkP [] ((ordOf ll).take k)).length ≤ 1000000 := by
     have h3 := walkP_le ((ordOf ll).take k) []
     have h4 := ord_le HS.out
     have h5 := HL.out
     rw [List.length_take, List.length_nil] at h3
     omega
    obtain ⟨P, hP⟩ : ∃ P, walkP [] ((ordOf ll).take k) = P := ⟨_, rfl⟩
    rw [hP] at hu1 hu2 hcut hlen h1 h2 HW' hdp
    obtain ⟨m, hm⟩ : ∃ m, P.length = m := ⟨_, rfl⟩
    rw [hm] at hu1 hu2 hlen hdp
    have HDR : Aside0 ((ordOf ll).drop k = x :: (ordOf ll).drop (k + 1)) := ⟨by rw [← (List.getElem?_eq_some_iff.1 hx).2, ← List.drop_eq_getElem_cons]⟩
    obtain ⟨x0, y⟩ := x
    dsimp only at hcut hkc hdp hdl HW' hx2 HDR ⊢
    have H1 := Aside0.mk h1
    have H2 := Aside0.mk h2
    have HU1 := Aside0.mk hu1
    have HU2 := Aside0.mk hu2
    have HCUT := Aside0.mk hcut
    have HADD := Aside0.mk hadd
    have HKC := Aside0.mk hkc
    have HNB := Aside0.mk hx2
    have HPL : Aside0 ((P.take x0).length ≤ 1000000) := ⟨by rw [List.length_take]; omega⟩
    have HRB : Aside0 (∀ q, (Value.slice A m c).ownBlock = some q → ∃ cur, W.heap[q]? = some (.cells cur 24 (0, 0))) := ⟨fun q hq => (hu2.block hq).2⟩
    have HOWN : Aside0 ((Value.slice A x0 c).ownBlock = (Value.slice A m c).ownBlock) := ⟨by cases A <;> rfl⟩
    have HINF : Aside0 (∃ i, Tryz.prog.info? 24 = some i) := ⟨by obtain ⟨i, hi, _⟩ := info_get infoD; exact ⟨i, hi⟩⟩
    have HWN : Aside0 (w.heap.size ≤ w3.heap.size) := ⟨HB.out.size⟩
    obtain ⟨n₀, Hn0⟩ : ∃ n₀, Aside0 (w3.heap.size = n₀) := ⟨_, ⟨rfl⟩⟩
    rw [Hn0.out] at HWN H1 HU2 HCUT HOW hl2 hx1 ⊢
    have HSZ0 := Aside0.mk H1.out.size
    clear hP hm h1 h2 hu1 hu2 hcut hadd hkc hx2 hx hcm hlen hdp
    gi_wp2
    refine AnyOrder.wpIn_region (by kernel_rfl) (pathInv w W n₀ O Nb A m c x0 y (P.take x0 ++ [y.f0]) _ _ _ _ _ _ _ _ _ _ _ _ _ _ _ _ _ _ _ _ _ _ _ _ _ _ _ _ _ _ _) ⟨false, false, false, false, false, false, false, false, 0, undef, rfl, rfl, ⟨⟨fun h => (by cases h), fun h => (by cases h), fun _ => ⟨HU1.out, HNB.out⟩, fun _ => Gr.drew _, fun h _ => (by cases h), fun h _ => (by cases h), fun h => (by cases h)⟩⟩⟩ ?step ?last
    case step =>
     rintro L ac V i ⟨l0, l1, l2, l3, l4, l5, l6, l7, g, u2, rfl, rfl, HF⟩ hi K hK
     have h1 : i = 0 ∨ i = 1 ∨ i = 2 ∨ i = 3 ∨ i = 4 ∨ i = 5 ∨ i = 6 ∨ i = 7 := by
      have h1 := (AnyOrder.mem_ready hi).1
      clear hi hK
      change i < 8 at h1
      omega
     rcases h1 with rfl | rfl | rfl | rfl | rfl | rfl | rfl | rfl
     ·
      obtain rfl : l0 = false := (AnyOrder.mem_ready hi).2.1
      clear hi
      obtain rfl := HF.out.no7 (.inl rfl)
      have cO : V.cell? ⟨O, 0, none⟩ = _ := (blk_cell (HF.out.low rfl).1 0).trans rfl
      refine AnyOrder.wpOpIn_go rfl (by rfl) ?_
      gi_wp2_with fail
      exact ⟨true, l1, l2, l3, l4, l5, l6, false, g, u2, rfl, rfl, ⟨⟨HF.out.ord6, fun h => (by cases h), HF.out.low, HF.out.pre, HF.out.ent, HF.out.mid, fun h => (by cases h)⟩⟩⟩
     ·
      obtain rfl : l1 = false := (AnyOrder.mem_ready hi).2.1
      clear hi
      refine AnyOrder.wpOpIn_go rfl (by rfl) ?_
      gi_wp2_with fail
      exact ⟨l0, true, l2, l3, l4, l5, l6, l7, g, u2, rfl, rfl, HF⟩
     ·
      obtain rfl : l2 = false := (AnyOrder.mem_ready hi).2.1
      obtain rfl : l0 = true := AnyOrder.dep (q := 0) hi rfl rfl rfl
      obtain rfl : l1 = true := AnyOrder.dep (q := 1) hi rfl rfl rfl
      clear hi
      simp only [sel_true, selv_true] at hK ⊢
      refine AnyOrder.wpOpIn_go rfl (by rfl) ?_
      refine op_slice_in 41 (.tmp 21) (.tmp 22) rfl rfl rfl (run_cut _ 24 _ A m c x0 V Tryz.underlying41 HINF.out.choose_spec HADD.out HKC.out) ?_
      exact hK _ _ ⟨true, true, true, l3, l4, l5, l6, l7, g, u2, rfl, rfl, HF⟩
     ·
      obtain rfl : l3 = false := (AnyOrder.mem_ready hi).2.1
      clear hi
      refine AnyOrder.wpOpIn_go rfl (by rfl) ?_
      gi_wp2_with fail
      exact ⟨l0, l1, l2, true, l4, l5, l6, l7, g, u2, rfl, rfl, HF⟩
     ·
      obtain rfl : l4 = false := (AnyOrder.mem_ready hi).2.1
      obtain rfl : l3 = true := AnyOrder.dep (q := 0) hi rfl rfl rfl
      clear hi
      simp only [sel_true, selv_true] at hK ⊢
      obtain rfl := HF.out.no7 (.inr (.inl rfl))
      have n0 : V.cell? ⟨Nb, 0, none⟩ = _ := (blk_cell (HF.out.low rfl).2 0).trans rfl
      have n1 : V.cell? ⟨Nb, 1, none⟩ = _ := (blk_cell (HF.out.low rfl).2 1).trans rfl
      refine AnyOrder.wpOpIn_go rfl (by rfl) ?_
      gi_wp2_with fail
      exact ⟨l0, l1, l2, true, true, l5, l6, false, g, u2, rfl, rfl, ⟨⟨HF.out.ord6, fun h => (by cases h), HF.out.low, HF.out.pre, HF.out.ent, HF.out.mid, fun h => (by cases h)⟩⟩⟩
     ·
      obtain rfl : l5 = false := (AnyOrder.mem_ready hi).2.1
      obtain rfl : l4 = true := AnyOrder.dep (q := 0) hi rfl rfl rfl
      clear hi
      simp only [sel_true, selv_true] at hK ⊢
      obtain rfl := HF.out.no6 rfl
      obtain rfl := HF.out.no7 (.inr (.inr rfl))
      refine AnyOrder.wpOpIn_go rfl (by rfl) ?_
      gi_wp2_with fail
      exact ⟨l0, l1, l2, l3, true, true, false, false, V.heap.size, u2, rfl, rfl, ⟨⟨fun _ => rfl, fun h => (by cases h), fun _ => ⟨blk_alloc (HF.out.low rfl).1 _, blk_alloc (HF.out.low rfl).2 _⟩, fun _ => (HF.out.pre rfl).trans (Gr.alloc _ _), fun _ _ => blk_new _ _, fun h => (by cases h), fun h => (by cases h)⟩⟩⟩
     ·
      obtain rfl : l6 = false := (AnyOrder.mem_ready hi).2.1
      obtain rfl : l2 = true := AnyOrder.dep (q := 0) hi rfl rfl rfl
      obtain rfl : l5 = true := AnyOrder.dep (q := 1) hi rfl rfl rfl
      clear hi
      simp only [sel_true, selv_true] at hK ⊢
      obtain rfl := HF.out.no7 (.inr (.inr rfl))
      obtain ⟨u3, V3, hrun, hrd, hgr, hat⟩ := run_append_dot n₀ 41 (.slice A x0 c) (P.take x0) y.f0 g 1 V (RD.below' HCUT.out (HF.out.pre rfl).below) (HF.out.ent rfl rfl) (Nat.le_trans HSZ0.out (HF.out.pre rfl).below.size) (by have := HPL.out; omega)
      rw [HOWN.out] at hgr hat
      refine AnyOrder.wpOpIn_go rfl (by rfl) ?_
      refine AnyOrder.op_append_in (.tmp 23) (.tmp 26) 41 rfl rfl rfl hrun ?_
      exact hK _ _ ⟨l0, l1, true, l3, l4, true, true, false, g, u3, rfl, rfl, ⟨HF.out.app HRB.out hgr hrd hat⟩⟩
     ·
      obtain rfl : l7 = false := (AnyOrder.mem_ready hi).2.1
      obtain rfl : l6 = true := AnyOrder.dep (q := 0) hi rfl rfl rfl
      obtain rfl : l0 = true := AnyOrder.dep (q := 2) hi rfl rfl rfl
      obtain rfl : l1 = true := AnyOrder.dep (q := 3) hi rfl rfl rfl
      obtain rfl : l2 = true := AnyOrder.dep (q := 4) hi rfl rfl rfl
      obtain rfl : l3 = true := AnyOrder.dep (q := 5) hi rfl rfl rfl
      obtain rfl : l4 = true := AnyOrder.dep (q := 6) hi rfl rfl rfl
      obtain rfl : l5 = true := AnyOrder.dep (q := 7) hi rfl rfl rfl
      clear hi
      simp only [sel_true, selv_true] at hK ⊢
      obtain ⟨Vb, hG, hg, hr, hat⟩ := HF.out.mid rfl rfl
      obtain ⟨A2, c2, rfl⟩ := hr.slice
      have cO : V.cell? ⟨O, 0, none⟩ = _ := (blk_cell (HF.out.low rfl).1 0).trans rfl
      have fO := blk_frozen (HF.out.low rfl).1 0
      have HST := Aside0.mk (HF.out.store HWN.out HOW.out.1 HU1.out HU2.out H1.out.coll.below HSZ0.out)
      obtain ⟨m2, hm2⟩ : ∃ m2, (P.take x0 ++ [y.f0]).length = m2 := ⟨_, rfl⟩
      rw [hm2] at HST HF
      (try rw [hm2] at hK)
      (try rw [hm2])
      clear hm2 hG hg hr hat
      refine AnyOrder.wpOpIn_go rfl (by rfl) ?_
      gi_wp2_with fail
      exact ⟨true, true, true, true, true, true, true, true, g, (.slice A2 m2 c2), rfl, rfl, HST⟩
    case last =>
     rintro L ac V ⟨l0, l1, l2, l3, l4, l5, l6, l7, g, u2, rfl, rfl, HF⟩ hr
     have hall := AnyOrder.all_listed rfl (by kernel_rfl) hr
     clear hr
     obtain rfl : l0 = true := hall 0 (by decide)
     obtain rfl : l1 = true := hall 1 (by decide)
     obtain rfl : l2 = true := hall 2 (by decide)
     obtain rfl : l3 = true := hall 3 (by decide)
     obtain rfl : l4 = true := hall 4 (by decide)
     obtain rfl : l5 = true := hall 5 (by decide)
     obtain rfl : l6 = true := hall 6 (by decide)
     obtain rfl : l7 = true := hall 7 (by decide)
     clear hall
     simp only [sel_true, selv_true]
     have hfin := HF.out.fin rfl
     have hEp : ∀ q, q < n₀ → q ≠ O → V.heap[q]? = W.heap[q]? := fun q h1 h2 => hfin.2.1.kp.2 q h1 h2
     have hd3 : V.heap[B3]? = some (dotC d) := (hEp B3 HOW.out.2.2.2.2.2.1 HOW.out.2.2.1).trans H1.out.dot
     have hr4 : V.heap[R4]? = some (outD (.slice none 0 0)) := (hEp R4 HOW.out.2.2.2.2.2.2.1 HOW.out.2.2.2.1).trans H1.out.r4
     have hr5 : V.heap[R5]? = some (outE 0) := (hEp R5 HOW.out.2.2.2.2.2.2.2 HOW.out.2.2.2.2.1).trans H1.out.r5
     have HFIN := Aside0.mk hfin
     have HD3 := Aside0.mk hd3
     have HR4V := Aside0.mk hr4
     have HR5V := Aside0.mk hr5
     have HFW : Aside0 (findWay d ((x0, y) :: (ordOf ll).drop (k + 1)) P = findWay d (ordOf ll) []) := ⟨by rw [← HDR.out]; exact H2.out⟩
     have hNB := hfin.2.2.2.1
     clear hfin hd3 hr4 hr5 hEp
     by_cases hyd : y.f0 = d
     ·
      have HEQ := Aside0.mk hyd
      have n0 : V.cell? ⟨Nb, 0, none⟩ = some (.int .i64 d.f0) := by rw [← hyd]; exact (blk_cell hNB 0).trans rfl
      have n1 : V.cell? ⟨Nb, 1, none⟩ = some (.int .i64 d.f1) := by rw [← hyd]; exact (blk_cell hNB 1).trans rfl
      have d0 : V.cell? ⟨B3, 0, none⟩ = _ := (blk_cell HD3.out 0).trans rfl
      have d1 : V.cell? ⟨B3, 1, none⟩ = _ := (blk_cell HD3.out 1).trans rfl
      obtain ⟨u', hO', hru⟩ := HFIN.out.2.2.1.out
      obtain ⟨A', c', rfl, hcc, hC⟩ := Kd.R_reads hru
      have hys : (P.take x0 ++ [y.f0]).length ≤ 1000001 := by rw [List.length_append, List.length_singleton]; have := HPL.out; omega
      have HQ : Aside0 (findWay d (ordOf ll) [] = some (P.take x0 ++ [y.f0])) := ⟨by rw [← HFW.out, findWay, if_pos hyd]⟩
      have HYL : Aside0 ((P.take x0 ++ [y.f0]).length ≤ 1000000) := ⟨by rw [← HW'.out]; exact HWL.out⟩
      obtain ⟨ys, Hys⟩ : ∃ ys, Aside0 (P.take x0 ++ [y.f0] = ys) := ⟨_, ⟨rfl⟩⟩
      rw [Hys.out] at hO' hru hcc hC HQ HYL
      have HCL := CloneDot.calls A' c' ys V hC HYL.out
      obtain ⟨ny, Hny⟩ : ∃ ny, Aside0 (ys.length = ny) := ⟨_, ⟨rfl⟩⟩
      rw [Hny.out] at hO' HCL
      have cO : V.cell? ⟨O, 0, none⟩ = _ := (blk_cell hO' 0).trans rfl
      have HCL := Aside0.mk HCL
      clear hyd hNB hO' hru hcc hC hys
      gi_wp2
      refine ⟨trivial, CallsIn.inRound lp (CallsIn.mono (callsIn_wide.2 HCL.out) ?_)⟩
      rintro e V2 ⟨v, rfl, hv, hb⟩
      obtain ⟨A3, c3, rfl⟩ := RD.slice hv
      rw [Hny.out]
      rw [Hny.out] at hv
      have hr4 := blk_keep HR4V.out hb
      have hr5 := blk_keep HR5V.out hb
      have HP := Aside0.mk (Put2.mk' hr4 hr5 (.slice A3 ny c3) 0)
      have hp5 := HP.out.mid
      have f5' := blk_frozen hp5 0
      have c5' : (V2.setCell ⟨R4, 0, none⟩ (.slice A3 ny c3)).cell? ⟨R5, 0, none⟩ = _ := (blk_cell hp5 0).trans rfl
      have f4 := blk_frozen hr4 0
      have c4 : V2.cell? ⟨R4, 0, none⟩ = _ := (blk_cell hr4 0).trans rfl
      have HV2 := Aside0.mk hv
      have HBV := Aside0.mk hb
      have HBW2 := Aside0.mk (below_more HFIN.out.2.2.1.below hb)
      have HH4 := Aside0.mk hr4
      have HH5 := Aside0.mk hr5
      clear n0 n1 d0 d1 cO hv hb hr4 hr5 hp5
      gi_wp2
      have hfar : ∀ (q : Nat) (o : Obj), V2.heap[q]? = some o → (∀ c, o ≠ .cells c 41 (0, 0)) → (∀ c, o ≠ .cells c 29 (0, 0)) → (put2 V2 R4 R5 (.slice A3 ny c3) 0).heap[q]? = some o := fun q o hq h1 h2 => (HP.out.far q (fun e => by subst e; rw [HH4.out] at hq; exact h1 _ (Option.some.inj hq).symm) (fun e => by subst e; rw [HH5.out] at hq; exact h2 _ (Option.some.inj hq).symm)).trans hq
      refine ⟨⟨?_, fun q o hB hq hoc => hfar q o (blk_keep (HFIN.out.1.same q o hB hq hoc) HBV.out) (fun c e => by subst e; cases hoc) (fun c e => by subst e; cases hoc)⟩, rfl, ys, ⟨⟨_, HP.out.r4, RD.keep (Kd.R_lower HV2.out (Nat.le_trans HWN.out (Nat.le_trans HSZ0.out HFIN.out.2.2.2.2))) (fun g hg => ?_)⟩, HP.out.r5, Put2.below HBW2.out HLO.out.2.1 HLO.out.2.2.1 _ _⟩, HQ.out⟩
      ·
       rw [HP.out.size]; exact Nat.le_trans HFIN.out.2.2.2.2 HBV.out.size
      ·
       obtain ⟨_, cur, hc⟩ := RD.block HV2.out hg
       exact (hfar g _ hc (fun c e => by cases e) (fun c e => by cases e)).trans hc.symm
     ·
      have HNE := Aside0.mk hyd
      have n0 : V.cell? ⟨Nb, 0, none⟩ = _ := (blk_cell hNB 0).trans rfl
      have n1 : V.cell? ⟨Nb, 1, none⟩ = _ := (blk_cell hNB 1).trans rfl
      have d0 : V.cell? ⟨B3, 0, none⟩ = _ := (blk_cell HD3.out 0).trans rfl
      have d1 : V.cell? ⟨B3, 1, none⟩ = _ := (blk_cell HD3.out 1).trans rfl
      have HEND : Aside0 (KeepsFrom n₀ W V ∧ KpT n₀ (fun i => i = O) W V ∧ PathI w n₀ O B3 R4 R5 d (walkP [] ((ordOf ll).take (k + 1))) V ∧ findWay d ((ordOf ll).drop (k + 1)) (walkP [] ((ordOf ll).take (k + 1))) = findWay d (ordOf ll) []) := ⟨HFIN.out.1, HFIN.out.2.1, by rw [HW'.out]; exact ⟨HFIN.out.2.2.1, Nat.le_trans HSZ0.out HFIN.out.2.2.2.2, HD3.out, HR4V.out, HR5V.out⟩, by rw [HW'.out, ← HFW.out, findWay, if_neg hyd]⟩
      by_cases h0 : y.f0.f0 = d.f0
      ·
       have h1 : ¬ y.f0.f1 = d.f1 := fun h1 => HNE.out (by rw [Dot.ext_iff']; exact ⟨h0, h1⟩)
       clear hyd hNB
       gi_wp2
       exact HEND.out
      ·
       clear hyd hNB
       gi_wp2
       exact HEND.out
   case done =>
    rintro D W hD ⟨h1, h2⟩ hDK
    rw [List.drop_length] at h2
    have hrr : r0 = [] ∧ r1 = 9 := by
     have := HRR.out
     rw [if_pos ⟨Hb.out, Hb2.out⟩, ← findWay_is HS.out HDN.out, ← h2] at this
     exact ⟨(Prod.mk.inj this).1.symm, (Prod.mk.inj this).2.symm⟩
    obtain ⟨rfl, rfl⟩ := hrr
    have HP := Aside0.mk (Put2.mk' h1.r4 h1.r5 (.slice none 0 0) 9)
    have hp5 := HP.out.mid
    have f5' := blk_frozen hp5 0
    have c5' : (W.setCell ⟨R4, 0, none⟩ (.slice none 0 0)).cell? ⟨R5, 0, none⟩ = _ := (blk_cell hp5 0).trans rfl
    have f4 := blk_frozen h1.r4 0
    have c4 : W.cell? ⟨R4, 0, none⟩ = _ := (blk_cell h1.r4 0).trans rfl
    have HDKE : Aside0 (W.heap[D]? = some (.deferred (some [])) ∧ w.heap.size ≤ D ∧ D ≠ R4 ∧ D ≠ R5) := ⟨⟨hDK, Nat.le_trans HB.out.size hD, fun e => (by rw [e, h1.r4] at hDK; cases hDK), fun e => (by rw [e, h1.r5] at hDK; cases hDK)⟩⟩
    have HBW := Aside0.mk h1.coll.below
    clear h1 h2 hD hDK hp5
    go_wp2
    refine leaves_of_marks2 (n0 := w.heap.size) [mkMark D] _ ⟨[D], rfl, by simp, fun E hE => ?_⟩ (fun W' hm => ⟨_, results_path rfl _ W' R4 R5 _ 9 rfl rfl ((hm.block R4 (.inr fun d e => ?_)).trans HP.out.r4) ((hm.block R5 (.inr fun d e => ?_)).trans HP.out.r5), _, rfl, Kd.R_nil _ _ _ _ _, below_onlyMarks (Put2.below HBW.out HLO.out.2.1 HLO.out.2.2.1 _ _) hm⟩)
    ·
     simp only [List.mem_singleton] at hE
     subst hE
     exact ⟨HDKE.out.2.1, (HP.out.far E HDKE.out.2.2.1 HDKE.out.2.2.2).trans HDKE.out.1⟩
    ·
     rw [HP.out.r4] at e; cases e
    ·
     rw [HP.out.r5] at e; cases e
   case stop =>
    rintro D c k W hD _ ⟨rfl, q, ⟨⟨v, h4, hv⟩, h5, hbl⟩, hq⟩ hDK
    have hrr : r0 = q ∧ r1 = 0 := by
     have := HRR.out
     rw [if_pos ⟨Hb.out, Hb2.out⟩, ← findWay_is HS.out HDN.out, hq] at this
     exact ⟨(Prod.mk.inj this).1.symm, (Prod.mk.inj this).2.symm⟩
    obtain ⟨rfl, rfl⟩ := hrr
    have HE := Aside0.mk (And.intro h4 (And.intro hv (And.intro h5 (And.intro hbl hDK))))
    have HD := Aside0.mk hD
    clear h4 hv h5 hbl hDK hD
    refine wpIn_wide.2 ?_
    dsimp only
    go_wp2
    refine leaves_of_marks2 (n0 := w.heap.size) [mkMark D] _ ⟨[D], rfl, by simp, fun E hE => ?_⟩ (fun W' hm => ⟨_, results_path rfl _ W' R4 R5 _ 0 rfl rfl ((hm.block R4 (.inr fun d e => ?_)).trans HE.out.1) ((hm.block R5 (.inr fun d e => ?_)).trans HE.out.2.2.1), _, rfl, R_onlyMarks HE.out.2.1 hm, below_onlyMarks HE.out.2.2.2.1 hm⟩)
    ·
     simp only [List.mem_singleton] at hE
     subst hE
     exact ⟨Nat.le_trans HB.out.size HD.out, HE.out.2.2.2.2⟩
    ·
     rw [HE.out.1] at e; cases e
    ·
     rw [HE.out.2.2.1] at e; cases e
end Go.Proofs.YtjlpaagnajmogaaGreat.PWalk
end
