-- Made by a program (wip/pp/pp.py, over the kit's print.py) for this claim. Lean checks it.
import Derived.Test.YtjlpaagnajmogaaDoorPFormx0
import Derived.Test.YtjlpaagnajmogaaDoorPFormx6
import Derived.Test.YtjlpaagnajmogaaDoorPFormx8
namespace Go.Proofs.YtjlpaagnajmogaaDoor.PForm
open Go.RowKit Go.Proofs.YtjlpaagnajmogaaDoorW.PrintWords Go.Proofs.YtjlpaagnajmogaaDoorW.PrintLast Go.Proofs.YtjlpaagnajmogaaDoorW.PrintMore
attribute [local go_sem] max2_int min2_int max_two min_two max_three min_three max_four min_four   -- for this text's walks alone
set_option linter.unusedVariables false
set_option linter.unusedSimpArgs false

/-! ### shape_Whole: function 14 -/
section
open Go.Shelf
attribute [local go_sem] Oper.semAt_some
/-! ### nodes as rows of cells -/
def nodeCells (x : Node) : List Value := [.int .i64 x.f0.f0, .int .i64 x.f0.f1, .int .i64 x.f1.f0, .int .i64 x.f1.f1, .int .i64 x.f2, .int .i32 x.f3]
def cellsOf (l : List Node) : List Value := l.flatMap nodeCells
theorem cellsOf_length (l : List Node) : (cellsOf l).length = l.length * 6 := by
  induction l with
  | nil => rfl
  | cons x l ih => rw [cellsOf, List.flatMap_cons, List.length_append, ← cellsOf, ih]; simp [nodeCells]; omega
theorem cellsOf_append (l m : List Node) : cellsOf (l ++ m) = cellsOf l ++ cellsOf m := by simp [cellsOf]
theorem cellsOf_drop_take (l : List Node) (j : Nat) (x : Node) (h : l[j]? = some x) : ((cellsOf l).drop (j * 6)).take 6 = nodeCells x := by
  induction l generalizing j with
  | nil => simp at h
  | cons y l ih =>
    cases j with
    | zero => simp at h; subst h; simp [cellsOf, nodeCells]
    | succ j =>
      simp at h
      rw [show (j + 1) * 6 = 6 + j * 6 from by omega, cellsOf, List.flatMap_cons, ← cellsOf, ← List.drop_drop, List.drop_left' (by simp [nodeCells])]
      exact ih j h
theorem reps_cells {R : Node → List Value → Prop} (l : List Node) (hR : ∀ x, R x (nodeCells x)) : Reps R 6 l (cellsOf l) :=
  ⟨cellsOf_length l, fun j p hj => by rw [cellsOf_drop_take l j p hj]; exact hR p⟩
theorem cells_of_reps {R : Node → List Value → Prop} (l : List Node) (cs : List Value) (h : Reps R 6 l cs) (hR : ∀ x c, R x c → c = nodeCells x) : cs = cellsOf l := by
  induction l generalizing cs with
  | nil => have := h.1; simp at this; subst this; rfl
  | cons x l ih =>
    obtain ⟨h1, h2⟩ := h
    have h0 := hR _ _ (h2 0 x rfl)
    simp only [Nat.zero_mul, List.drop_zero] at h0
    have ht : Reps R 6 l (cs.drop 6) := ⟨by rw [List.length_drop, h1]; simp; omega, fun j p hj => by
      have := h2 (j + 1) p (by simpa using hj)
      rw [List.drop_drop, show 6 + j * 6 = (j + 1) * 6 from by omega]; exact this⟩
    rw [cellsOf, List.flatMap_cons, ← cellsOf, ← ih _ ht, ← h0, List.take_append_drop]
theorem R_of_cells {w : World} {base : Nat} {ok : Nat → Prop} {v : Value} {l : List Node} (h : w.ownsRow base 37 6 v l.length (cellsOf l)) (hok : ∀ k, v.ownBlock = some k → ok k) : Kd.R k37 37 w base ok v l :=
  ⟨hok, cellsOf l, h, reps_cells l fun x => k37_mkM _ _ _ x⟩
theorem cells_of_R {w : World} {base : Nat} {ok : Nat → Prop} {v : Value} {l : List Node} (h : Kd.R k37 37 w base ok v l) : w.ownsRow base 37 6 v l.length (cellsOf l) := by
  obtain ⟨_, inner, ho, hr⟩ := h
  rw [← cells_of_reps l inner hr fun x c hx => k37_openM hx]
  exact ho
theorem cellsOf_get (l : List Node) (j : Nat) (u : Value) (h : (cellsOf l)[j]? = some u) : ∃ x, l[j / 6]? = some x ∧ (nodeCells x)[j % 6]? = some u := by
  have hj : j < l.length * 6 := by rw [← cellsOf_length]; exact (List.getElem?_eq_some_iff.1 h).1
  have hd : j / 6 < l.length := by omega
  refine ⟨l[j / 6], List.getElem?_eq_getElem hd, ?_⟩
  rw [← cellsOf_drop_take l (j / 6) _ (List.getElem?_eq_getElem hd), List.getElem?_take, if_pos (by omega), List.getElem?_drop, show j / 6 * 6 + j % 6 = j from by omega]
  exact h
theorem C_cells {w : World} {A : Option Addr} {n : Nat} {xs : List Node} (h : Kd.C k37 w A n xs) (hp : 0 < n) : ∃ ad, A = some ad ∧ ∀ j u, (cellsOf xs)[j]? = some u → w.cell? (ad.add j) = some u := by
  obtain ⟨hl, _, hc⟩ := h
  obtain ⟨ad, e, hc⟩ := hc hp
  refine ⟨ad, e, fun j u hu => ?_⟩
  obtain ⟨x, hx, hu⟩ := cellsOf_get xs j u hu
  obtain ⟨c, _, hK, hcell⟩ := hc _ _ hx
  have hcx : c = nodeCells x := k37_open hK
  subst hcx
  have h2 := hcell _ _ hu
  have e2 : j / 6 * (k37).sz + j % 6 = j := (show j / 6 * 6 + j % 6 = j by omega)
  rw [e2] at h2
  exact h2
theorem one_cells (l : List Node) : ∀ u ∈ cellsOf l, u.oneCell' = true := by
  intro u hu
  unfold cellsOf at hu
  rw [List.mem_flatMap] at hu
  obtain ⟨x, _, hx⟩ := hu
  simp [nodeCells] at hx
  rcases hx with rfl | rfl | rfl | rfl | rfl | rfl <;> rfl
theorem infoN : (Tryd.prog.info? 37).map (fun i => (i.zero, i.size, i.bytes)) = some (some (.agg #[(.int .i64 0), (.int .i64 0), (.int .i64 0), (.int .i64 0), (.int .i64 0), (.int .i32 0)]), 6, 48) := by kernel_rfl
section
variable {P : Program} {ops : Array Oper} {rest : List Oper} {o : Oper} {a : Act} {Q : Exit → Act → World → Prop}
theorem wpList_append_eq (hgd : o.guard = none) (s x : Operand) (t : TypeId) (ho : o.op = .call { callee := .builtin .append, args := #[s, x], argTypes := #[t, t] }) {v1 v2 v' : Value} {w w' : World}
    (hs : a.eval s = v1) (hx : a.eval x = v2) (hrun : (Builtin.append_ #[t, t] o.type #[v1, v2]).run P w = .ok v' w') (h : wpList P ops Q rest (a.put o.dst v') w') : wpList P ops Q (o :: rest) a w := by
  refine wpList_plain hgd fun K hK => ?_
  unfold Oper.wp
  simp [execOp, ho, resolve, invoke, builtin, hs, hx, hrun, Result.andThen]
  exact hK _ _ h
theorem wpList_clear_eq (hgd : o.guard = none) (x : Operand) (t : TypeId) (ho : o.op = .call { callee := .builtin .clear, args := #[x], argTypes := #[t] }) {v2 v' : Value} {w w' : World}
    (hx : a.eval x = v2) (hrun : (Builtin.clear_ #[t] o.type #[v2]).run P w = .ok v' w') (h : wpList P ops Q rest (a.put o.dst v') w') : wpList P ops Q (o :: rest) a w := by
  refine wpList_plain hgd fun K hK => ?_
  unfold Oper.wp
  simp [execOp, ho, resolve, invoke, builtin, hx, hrun, Result.andThen]
  exact hK _ _ h
end
theorem setRow_at {w : World} {g : Nat} {cur : Array Value} {t : TypeId} {fr : Nat × Nat} (h : w.heap[g]? = some (.cells cur t fr)) (cs : Array Value) : (w.setRow g cs).heap[g]? = some (.cells cs t fr) := by
  unfold World.setRow
  simp only [Array.getElem?_modify, if_true, h]
  rfl
theorem setRow_grown (w : World) (g : Nat) (cs : Array Value) : w.grownBy (w.setRow g cs) (some g) :=
  ⟨rfl, rfl, rfl, by simp, fun k hk hne => setRow_other w g k cs (fun e => hne (by rw [e]))⟩
theorem run_clear_row {P : Program} {t e : TypeId} {z : Value} (ht : P.underlying t = some (.slice e)) (hz : ∀ w, (zeroValue e).run P w = .ok z w) (h1 : ∀ u ∈ z.cells.toList, u.oneCell' = true) (ty : TypeId) (g off n c : Nat) (cur : Array Value) (te : TypeId) (w : World)
    (hg : w.heap[g]? = some (.cells cur te (0, 0))) (hn : 0 < n) (hfit : off + n * z.cells.size ≤ cur.size) :
    (Builtin.clear_ #[t] ty #[.slice (some ⟨g, off, none⟩) n c]).run P w = .ok (.tuple #[]) (w.setRow g (cur.toList.take off ++ (Builtin.zeroCells z.cells n).toList ++ cur.toList.drop (off + n * z.cells.size)).toArray) := by
  obtain ⟨m, rfl⟩ : ∃ m, n = m + 1 := ⟨n - 1, by omega⟩
  have hs := run_storeCells_at (P := P) g off te (Builtin.zeroCells z.cells (m + 1)).toList 0 cur w hg (by simp [size_zeroCells]; omega) (by
    intro v hv
    simp only [Builtin.zeroCells, Array.toList_map, List.mem_map] at hv
    obtain ⟨i, hi, rfl⟩ := hv
    rcases Nat.eq_zero_or_pos z.cells.size with h0 | h0
    · simp [h0] at hi
    · have hlt := Nat.mod_lt i h0
      rw [getElem!_pos z.cells (i % z.cells.size) hlt]
      exact h1 _ (by simp))
  have hlen : (Builtin.zeroCells z.cells (m + 1)).toList.length = (m + 1) * z.cells.size := by simp [size_zeroCells]
  rw [hlen] at hs
  simp only [Nat.add_zero] at hs
  unfold Builtin.clear_
  simp [run_underlying ht, hz, hs, Result.andThen]
set_option maxHeartbeats 400000 in
set_option maxRecDepth 100000 in
theorem CloneNode.calls (A0 : Option Addr) (c0 : Nat) (l0 : List Node) (w : World) (hr0 : Kd.C k37 w A0 l0.length l0) (hl : l0.length ≤ 1000000) :
    Calls Tryd.prog 40 #[.slice A0 l0.length c0] w fun e w' => ∃ v0_ : Value, e = .returned v0_ ∧ Kd.R k37 37 w' w.heap.size (fun _ => True) v0_ l0 ∧ Below w.heap.size w w' := by
  cases A0 with
  | none =>
    have hz : l0 = [] := by
      cases l0 with
      | nil => rfl
      | cons x l => obtain ⟨ad, e, _⟩ := C_cells hr0 (by simp); cases e
    subst hz
    have hq := fun (W : World) => Lib.run_eql_slice_nil_nil (P := Tryd.prog) W 0 c0 Tryd.underlying22
    clear hr0
    go_enter Tryd.func40, Tryd.ntmps40
    go_wp2
    go_ret
    exact ⟨_, rfl, Kd.R_nil _ _ _ _ _, Below.refl _ _⟩
  | some ad =>
    have hq := fun (W : World) => Lib.run_eql_slice_some_nil (P := Tryd.prog) W ad l0.length c0 Tryd.underlying22
    have HR := Aside0.mk hr0
    obtain ⟨i0, hi, hz0, hz1, hz2⟩ := info_parts infoN
    have hz := Tryd.zeroValue37
    have hlen := cellsOf_length l0
    have hcells : Aside0 (∀ j u, (cellsOf l0)[j]? = some u → w.cell? (ad.add j) = some u) := ⟨by
      intro j u hu
      by_cases hp : 0 < l0.length
      · obtain ⟨ad', e, h⟩ := C_cells hr0 hp
        cases e; exact h j u hu
      · have : l0 = [] := by cases l0 <;> simp_all
        subst this; simp [cellsOf] at hu⟩
    clear hr0
    go_enter Tryd.func40, Tryd.ntmps40
    go_wp2_with (at_builtin; go_loud (refine wpList_append_own _ rfl (.tmp 5) (.tmp 6) 22 rfl w.heap.size 37 i0 _ 6 48 Tryd.underlying22 hi hz0 hz1 hz2 rfl (by decide) _ 0 [] rfl (World.ownsRow_lit w #[] 0 (Nat.le_refl _) (by decide) rfl) ad l0.length c0 (cellsOf l0) rfl hlen ?c1 (one_cells l0) ?c2 ?c3 ?c4 ?_); (case c1 => exact fun j u hu => pw_cell_below (below_alloc (Below.refl _ _) _) (hcells.out j u hu)); (case c2 => unfold maxLen; omega); (case c3 => omega); (case c4 => simp); intro v' w' ho hg hn)
    go_ret
    exact ⟨_, rfl, R_of_cells (by simpa using ho) (fun _ _ => trivial), (below_alloc (Below.refl _ _) _).grown hg (by simp) (fun k e => by cases (show some w.heap.size = some k from e); exact Nat.le_refl _)⟩
theorem cellsOf_take (l : List Node) (i : Nat) : cellsOf (l.take i) = (cellsOf l).take (i * 6) := by
  by_cases h : i ≤ l.length
  · have e : cellsOf l = cellsOf (l.take i) ++ cellsOf (l.drop i) := by rw [← cellsOf_append, List.take_append_drop]
    rw [e, List.take_left' (by rw [cellsOf_length, List.length_take]; omega)]
  · rw [List.take_of_length_le (by omega), List.take_of_length_le (by rw [cellsOf_length]; omega)]
theorem cellsOf_drop (l : List Node) (i : Nat) : cellsOf (l.drop i) = (cellsOf l).drop (i * 6) := by
  by_cases h : i ≤ l.length
  · have e : cellsOf l = cellsOf (l.take i) ++ cellsOf (l.drop i) := by rw [← cellsOf_append, List.take_append_drop]
    rw [e, List.drop_left' (by rw [cellsOf_length, List.length_take]; omega)]
  · rw [List.drop_of_length_le (by omega), List.drop_of_length_le (by rw [cellsOf_length]; omega)]; rfl
set_option maxHeartbeats 1000000 in
set_option maxRecDepth 100000 in
/-- slices.Delete(s, i, i + 1) of a slice of the call's own. -/
theorem DeleteNode.calls (base : Nat) (v : Value) (l0 : List Node) (i j : Nat) (hij : j = i + 1) (w : World) (ho : Kd.R k37 37 w base (fun _ => True) v l0) (hi : i < l0.length) (hl : l0.length ≤ 1000000) :
    Calls Tryd.prog 42 #[v, .int .i64 i, .int .i64 j] w fun e w' => ∃ v0_ : Value, e = .returned v0_ ∧ Kd.R k37 37 w' base (fun _ => True) v0_ (l0.eraseIdx i) ∧ w.grownBy w' v.ownBlock := by
  obtain ⟨g, cap, rfl, hg1, hg2, _⟩ := Kd.R_form ho (by omega)
  have hrow := cells_of_R ho
  obtain ⟨hrl, hrow⟩ := hrow
  rcases hrow with ⟨h, _⟩ | ⟨g', cap', cur, he, hbg, hcur, hle, hmx, hsz, htk⟩
  · cases h
  cases he
  have HMX := Aside0.mk hmx
  obtain ⟨i0, hi0, hz0, hz1, hz2⟩ := info_parts infoN
  have hz := Tryd.zeroValue37
  have HCUR := Aside0.mk hcur
  have HTK := Aside0.mk htk
  have HSZ := Aside0.mk hsz
  have HLE := Aside0.mk hle
  have HI := Aside0.mk hi0
  have HI1 := Aside0.mk hz1
  have HB := Aside0.mk hbg
  have hcl := cellsOf_length l0
  -- what the append leaves
  obtain ⟨n, hn⟩ : ∃ n, l0.length = n + 1 := ⟨l0.length - 1, by omega⟩
  have hcells : ∀ j u, (cellsOf l0)[j]? = some u → w.cell? ⟨g, j, none⟩ = some u := fun j u hu => by
    rw [blk_cell hcur, ← Array.getElem?_toList]
    rw [← htk] at hu
    rw [List.getElem?_take] at hu
    split at hu
    · exact hu
    · cases hu
  obtain ⟨ad, had⟩ : ∃ ad, (if cap = j then (⟨g, 0, none⟩ : Addr) else ⟨g, j * 6, none⟩) = ad := ⟨_, rfl⟩
  have hnews : ∀ q u, ((cellsOf l0).drop (j * 6))[q]? = some u → w.drew.cell? (ad.add q) = some u := by
    intro q u hu
    rw [List.getElem?_drop] at hu
    have hlt := (List.getElem?_eq_some_iff.1 hu).1
    rw [if_neg (by omega)] at had
    subst had
    have h := hcells _ _ hu
    show w.cell? _ = _
    rw [show ((⟨g, j * 6, none⟩ : Addr).add q) = ⟨g, j * 6 + q, none⟩ from by unfold Addr.add; split <;> simp_all]
    exact h
  have hrun := run_append_room (P := Tryd.prog) (w := w.drew) 22 22 37 i0 Tryd.underlying22 hi0 g i cap cur hcur ad (l0.length - j) (cap - j) ((cellsOf l0).drop (j * 6)) (by rw [List.length_drop, hz1]; omega) hnews (fun u hu => one_cells l0 u (List.mem_of_mem_drop hu)) (by omega) (by rw [hz1, List.length_drop]; omega)
  rw [hz1, show i + (l0.length - j) = n from by omega] at hrun
  have hcur2 := setRow_at (show w.drew.heap[g]? = _ from hcur) (cur.toList.take (i * 6) ++ (cellsOf l0).drop (j * 6) ++ cur.toList.drop (i * 6 + ((cellsOf l0).drop (j * 6)).length)).toArray
  obtain ⟨cur2, hc2⟩ : ∃ cur2, (cur.toList.take (i * 6) ++ (cellsOf l0).drop (j * 6) ++ cur.toList.drop (i * 6 + ((cellsOf l0).drop (j * 6)).length)).toArray = cur2 := ⟨_, rfl⟩
  rw [hc2] at hrun hcur2
  have hgr := setRow_grown w.drew g cur2
  obtain ⟨w2, hw2⟩ : ∃ w2, w.drew.setRow g cur2 = w2 := ⟨_, rfl⟩
  rw [hw2] at hrun hcur2 hgr
  have htk2 : cur2.toList.take (n * 6) = cellsOf (l0.eraseIdx i) := by
    rw [← hc2, List.eraseIdx_eq_take_drop_succ, cellsOf_append, cellsOf_take, cellsOf_drop, ← hij]
    have h1 : cur.toList.take (i * 6) = (cellsOf l0).take (i * 6) := by rw [← htk, List.take_take]; congr 1; omega
    simp only []
    rw [h1, List.take_left' (by rw [List.length_append, List.length_take, List.length_drop]; omega)]
  have hsz2 : cur2.size = cap * 6 := by
    rw [← hc2, List.size_toArray, List.length_append, List.length_append, List.length_take, List.length_drop, List.length_drop, Array.length_toList]
    have : cur.toList.length = cap * 6 := by rw [Array.length_toList]; exact hsz
    omega
  have hclr := run_clear_row (P := Tryd.prog) Tryd.underlying22 hz (by decide) 0 g (n * 6) (l0.length - n) (cap - n) cur2 37 w2 hcur2 (by omega) (by rw [hsz2]; show n * 6 + (l0.length - n) * 6 ≤ cap * 6; omega)
  have harr : ∀ (zs : List Value), zs.length = (l0.length - n) * 6 → (cur2.toList.take (n * 6) ++ zs ++ cur2.toList.drop (n * 6 + (l0.length - n) * 6)).toArray.size = cap * 6 ∧ (cur2.toList.take (n * 6) ++ zs ++ cur2.toList.drop (n * 6 + (l0.length - n) * 6)).toArray.toList.take (n * 6) = cellsOf (l0.eraseIdx i) := by
    intro zs hzs
    have hl2 : cur2.toList.length = cap * 6 := by rw [Array.length_toList]; exact hsz2
    constructor
    · rw [List.size_toArray, List.length_append, List.length_append, List.length_take, List.length_drop]; omega
    · show (cur2.toList.take (n * 6) ++ zs ++ cur2.toList.drop (n * 6 + (l0.length - n) * 6)).take (n * 6) = _
      rw [List.append_assoc, List.take_left' (by rw [List.length_take]; omega)]; exact htk2
  obtain ⟨cur3, hc3⟩ : ∃ cur3, (cur2.toList.take (n * 6) ++ (Builtin.zeroCells (Value.agg #[(.int .i64 0), (.int .i64 0), (.int .i64 0), (.int .i64 0), (.int .i64 0), (.int .i32 0)]).cells (l0.length - n)).toList ++ cur2.toList.drop (n * 6 + (l0.length - n) * 6)).toArray = cur3 := ⟨_, rfl⟩
  have hclr2 : (Builtin.clear_ #[22] 0 #[.slice (some ⟨g, n * 6, none⟩) (l0.length - n) (cap - n)]).run Tryd.prog w2 = .ok (.tuple #[]) (w2.setRow g cur3) := by rw [← hc3]; exact hclr
  have hfin := harr ((Builtin.zeroCells (Value.agg #[(.int .i64 0), (.int .i64 0), (.int .i64 0), (.int .i64 0), (.int .i64 0), (.int .i32 0)]).cells (l0.length - n)).toList) (by rw [Array.length_toList, size_zeroCells]; rfl)
  rw [hc3] at hfin
  have HFIN := Aside0.mk hfin
  have HCLR := Aside0.mk hclr2
  have HC3 := Aside0.mk (setRow_at hcur2 cur3)
  have HG3 := Aside0.mk (setRow_grown w2 g cur3)
  obtain ⟨w3, hw3⟩ : ∃ w3, w2.setRow g cur3 = w3 := ⟨_, rfl⟩
  rw [hw3] at HCLR HC3 HG3
  have HRUN := Aside0.mk hrun
  have HC2 := Aside0.mk hcur2
  have HGR := Aside0.mk hgr
  have HTK2 := Aside0.mk htk2
  have HSZ2 := Aside0.mk hsz2
  have HAD := Aside0.mk had
  have HN := Aside0.mk hn
  clear hw3 hclr2 harr hfin hc3 hcur htk hsz ho hrl hnews hcells hrun hclr hcur2 hgr htk2 hsz2 hw2 hc2 had hz0 hz1 hz2 hi0 hmx hcl hz hn
  have hic : i ≤ cap := by omega
  have hjc : j ≤ l0.length := by omega
  have hbe : ((i : Int) == (j : Int)) = false := beq_eq_false_iff_ne.2 (by omega)
  have HIJ := Aside0.mk hij
  have hijl : i ≤ j := by omega
  clear hij
  go_enter Tryd.func42, Tryd.ntmps42
  go_wp2
  go_still_tail 6, (by kernel_rfl)
  change wpList _ _ _ _ _ w.drew
  refine wpList_append_eq rfl (.tmp 22) (.tmp 25) 22 rfl rfl ?hx HRUN.out ?_
  case hx =>
    show Value.slice _ _ _ = _
    rw [← HAD.out]
    split <;> rfl
  have hnl : n < l0.length := by have := HN.out; omega
  have hnc : ¬ cap = n := by omega
  clear hjc hbe hijl hic
  have hcr := HCLR.out
  have hlen : (l0.eraseIdx i).length = n := by rw [List.length_eraseIdx, if_pos hi]; have := HN.out; omega
  have HLEN := Aside0.mk hlen
  clear hlen
  have HEND : Aside0 (Kd.R k37 37 w3 base (fun _ => True) (.slice (some ⟨g, 0, none⟩) n cap) (l0.eraseIdx i) ∧ w.grownBy w3 (some g)) := ⟨by
    constructor
    · refine R_of_cells ⟨cellsOf_length _, .inr ⟨g, cap, cur3, by rw [HLEN.out], HB.out, HC3.out, ?_, HMX.out, HFIN.out.1, ?_⟩⟩ (fun _ _ => trivial)
      · rw [HLEN.out]; omega
      · rw [HLEN.out]; exact HFIN.out.2
    · have h1 : w.grownBy w.drew (some g) := ⟨rfl, rfl, rfl, Nat.le_refl _, fun _ _ _ => rfl⟩
      exact ⟨HG3.out.os.trans HGR.out.os, HG3.out.tape.trans HGR.out.tape, HG3.out.output.trans HGR.out.output, Nat.le_trans HGR.out.size HG3.out.size, fun k hk hne => (HG3.out.block k (Nat.lt_of_lt_of_le hk HGR.out.size) hne).trans (HGR.out.block k hk hne)⟩⟩
  go_wp2
  all_goals
    go_ret
    first | exact ⟨_, rfl, HEND.out⟩ | (obtain rfl : cap = j := (by assumption); exact ⟨_, rfl, HEND.out⟩)
abbrev vFault (x : Fault) : Value := .agg #[.int .i64 x.f0, .int .i64 x.f1]
theorem fault_at {w wr : World} {A : Option Addr} {n : Nat} {xs : List Fault} (h : Kd.C k44 w A n xs) (hb : Below w.heap.size w wr) (k : Nat) (x : Fault) (hk : xs[k]? = some x) :
    ∃ ad, A = some ad ∧ wr.cell? (ad.add (k * 2)) = some (.int .i64 x.f0) ∧ wr.cell? ⟨(ad.add (k * 2)).block, (ad.add (k * 2)).off + 1, none⟩ = some (.int .i64 x.f1) := by
  have hl := Kd.C_len h
  have hlt := (List.getElem?_eq_some_iff.1 hk).1
  obtain ⟨ad, e, h0, h1⟩ := at_T44 h (k : Int) (by omega) (by omega)
  have hd : rd_T44 xs (k : Int) = x := by simp [rd_T44, hk]
  rw [hd] at h0 h1
  simp only [Int.toNat_natCast] at h0 h1
  exact ⟨ad, e, pw_cell_below hb h0, pw_cell_below hb h1⟩
set_option maxRecDepth 100000 in
set_option maxHeartbeats 1000000 in
theorem bkFault_in (n lp Bs n₀ : Nat) (E : Nat → Prop) (A : Option Addr) (c0 : Nat) (xs : List Fault) (hn : 1 ≤ n) (hm : xs.length ≤ 1000000) (J Jx : Nat → World → Prop)
    (hY : ∀ k x W, (bk xs)[k]? = some x → J k W → YieldAt Fence.wide (n - 1) Tryd.prog lp #[.int .i64 ((x : Nat × Fault).1 : Int), vFault x.2] W fun e W' =>
      (e = .returned (.bool true) ∧ J (k + 1) W' ∧ KpE n₀ E W W') ∨ (e = .returned (.bool false) ∧ Jx (k + 1) W'))
    (W : World) (hBs : W.cell? ⟨Bs, 0, none⟩ = some (.slice A xs.length c0)) (hB0 : Bs < n₀) (hBE : ¬ E Bs) (hA : ∀ ad, A = some ad → 0 < xs.length → ad.block < n₀ ∧ ¬ E ad.block) (hr : Kd.C k44 W A xs.length xs) (h0 : J 0 W) :
    CallsIn Fence.wide n Tryd.prog 68 #[.func (.yield lp) #[] #[], .pointer (some ⟨Bs, 0, none⟩)] W fun e W' => (∃ v, e = .returned v) ∧
      (J (bk xs).length W' ∨ ∃ k, k ≤ (bk xs).length ∧ Jx k W') := by
  have hu := Tryd.underlying44
  have HY := Aside0.mk hY
  have HR := Aside0.mk hr
  have HA := Aside0.mk hA
  have HE := Aside0.mk hBE
  clear hY hr hA hBE
  refine callsIn_of_wp Tryd.func68 rfl trivial ?_ rfl
  simp only [Tryd.ntmps68, List.size_toArray, List.length_cons, List.length_nil, Nat.reduceAdd, Nat.reduceSub, Array.replicate_succ, Array.replicate_zero, List.push_toArray, List.append_toArray, List.nil_append, List.cons_append]
  gi_wp2
  gi_loopw [3] (fun i wr => ∃ k : Nat, k ≤ xs.length ∧ i = .int .i64 ((xs.length : Int) - 1 - k) ∧ Aside0 (J k wr) ∧ Aside0 (KpE n₀ E W wr)) (fun i _ => (intOf i + 1).toNat)
  case atStart => exact ⟨0, Nat.zero_le _, by simp, ⟨h0⟩, ⟨KpE.refl _ _ _⟩⟩
  case round =>
    obtain ⟨k, hk, rfl, hJ, hK⟩ := hrel
    have hs : wr.cell? ⟨Bs, 0, none⟩ = some (.slice A xs.length c0) := hK.out.cell (p := ⟨Bs, 0, none⟩) hB0 HE.out hBs
    by_cases hlt : k < xs.length
    · obtain ⟨x, hx⟩ : ∃ x, Aside0 (xs[xs.length - 1 - k]? = some x) := ⟨_, ⟨List.getElem?_eq_getElem (by omega)⟩⟩
      obtain ⟨ad, e, g0, g1⟩ := fault_at HR.out (Below.refl _ _) _ x hx.out
      subst e
      obtain ⟨ha, hae⟩ := HA.out ad rfl (by omega)
      have hbl : (ad.add ((xs.length - 1 - k) * 2)).block = ad.block := by unfold Addr.add; split <;> rfl
      replace g0 := hK.out.cell (p := ad.add ((xs.length - 1 - k) * 2)) (by rw [hbl]; exact ha) (by rw [hbl]; exact hae) g0
      replace g1 := hK.out.cell (p := ⟨_, _, none⟩) (by simp only [hbl]; exact ha) (by simp only [hbl]; exact hae) g1
      clear hbl hae ha
      have hx' : x = xs[xs.length - 1 - k]'(by omega) := by have := hx.out; rw [List.getElem?_eq_getElem (by omega)] at this; exact (Option.some.inj this).symm
      have HT : Aside0 ((bk xs)[k]? = some (xs.length - 1 - k, x)) := ⟨by rw [bk_get xs k hlt, hx']⟩
      clear hx'
      have hi : ((xs.length : Int) - 1 - k) = ((xs.length - 1 - k : Nat) : Int) := by omega
      rw [hi]
      obtain ⟨j, hj⟩ : ∃ j, Aside0 (j = xs.length - 1 - k) := ⟨_, ⟨rfl⟩⟩
      rw [← hj.out] at g0 g1 ⊢
      have hjl : j < xs.length := by rw [hj.out]; omega
      obtain ⟨fn, tmps, assign, body, hy, hR⟩ := HY.out k (j, x) wr (by rw [hj.out]; exact HT.out) hJ.out
      dsimp only at hy
      clear hi
      gi_wp2
      refine hR.mono ?_
      rintro e W3 (⟨rfl, hJ3, hk3⟩ | ⟨rfl, hJx3⟩)
      · gi_wp2
        go_roundw
        case rel => exact ⟨k + 1, by omega, by rw [hj.out]; (try congr 1); (try omega), ⟨hJ3⟩, ⟨hK.out.trans hk3⟩⟩
        case measure => simp [intOf] <;> omega
      · gi_wp2
        refine bodyPost_ret (results_none rfl _ _ _) rfl ?_
        exact ⟨⟨_, rfl⟩, .inr ⟨k + 1, by rw [bk_length]; omega, hJx3⟩⟩
    · obtain rfl : k = xs.length := by omega
      have hi : ((xs.length : Int) - 1 - xs.length) = -1 := by omega
      rw [hi]
      clear hi
      gi_wp2
      go_end0
      exact ⟨⟨_, rfl⟩, .inl (by rw [bk_length]; exact hJ.out)⟩
set_option maxHeartbeats 400000 in
theorem BackwardFault.calls (A : Option Addr) (n c0 : Nat) (w : World) :
    Calls Tryd.prog 41 #[.slice A n c0] w fun e w' => e = .returned (.func (.func 68) #[] #[.pointer (some ⟨w.heap.size, 0, none⟩)]) ∧ w' = w.alloc (.cells #[.slice A n c0] 25) := by
  go_enter Tryd.func41, Tryd.ntmps41
  go_wp2
  go_ret
  exact ⟨rfl, rfl⟩
/-! ### shape.Whole -/
/-- The list without the nodes whose indices come, one after the other. -/
def dropAt (l : List Node) (pre : List (Nat × Fault)) : List Node := pre.foldl (fun m p => m.eraseIdx p.2.f0.toNat) l
theorem dropAt_snoc (l : List Node) (pre : List (Nat × Fault)) (x : Nat × Fault) : dropAt l (pre ++ [x]) = (dropAt l pre).eraseIdx x.2.f0.toNat := by simp [dropAt]
def dropFaults (l : List Node) : List Node := dropAt l (bk (faultsOf l))
def wholeN : Nat → List Node → List Node
  | 0, l => l
  | k + 1, l => if faultsOf l = [] then l else wholeN k (dropFaults l)
def wholeOf (l : List Node) : List Node := wholeN l.length l
theorem faults_inc (l : List Node) (m : List (Dot × Nat)) (k : Nat) : (faultsUpto l m k).Pairwise (fun a b => a.f0 < b.f0) ∧ ∀ f ∈ faultsUpto l m k, 0 ≤ f.f0 ∧ f.f0 < k := by
  induction k with
  | zero => simp [faultsUpto]
  | succ k ih =>
    rw [faultsUpto_succ]
    split
    · rw [List.append_nil]
      exact ⟨ih.1, fun f hf => ⟨(ih.2 f hf).1, by have := (ih.2 f hf).2; omega⟩⟩
    · refine ⟨List.pairwise_append.2 ⟨ih.1, by simp, fun a ha b hb => ?_⟩, fun f hf => ?_⟩
      · simp at hb; subst hb; exact (ih.2 a ha).2
      · rcases List.mem_append.1 hf with h | h
        · exact ⟨(ih.2 f h).1, by have := (ih.2 f h).2; omega⟩
        · simp at h; subst h; exact ⟨by simp, by show (k : Int) < ((k + 1 : Nat) : Int); omega⟩
/-- Behind the first faults from behind, each index that is still to come stands where it stood. -/
theorem dropAt_length (l : List Node) (fs : List Fault) (hp : fs.Pairwise (fun a b => a.f0 < b.f0)) (hr : ∀ f ∈ fs, 0 ≤ f.f0 ∧ f.f0 < l.length) (k : Nat) (hk : k ≤ fs.length) :
    (dropAt l ((bk fs).take k)).length = l.length - k ∧ ∀ j (hj : j < fs.length), j + k < fs.length → (fs[j]).f0 < ((l.length - k : Nat) : Int) := by
  induction k with
  | zero => exact ⟨by simp [dropAt], fun j hj _ => (hr _ (List.getElem_mem hj)).2⟩
  | succ k ih =>
    obtain ⟨h1, h2⟩ := ih (by omega)
    have hlast := h2 (fs.length - 1 - k) (by omega) (by omega)
    have h0 := (hr _ (List.getElem_mem (show fs.length - 1 - k < fs.length by omega))).1
    refine ⟨?_, fun j hj hjk => ?_⟩
    · rw [bk_take_succ fs k (by omega), dropAt_snoc, List.length_eraseIdx, h1, if_pos (by simp only []; omega)]; omega
    · have := List.pairwise_iff_getElem.1 hp j (fs.length - 1 - k) hj (by omega) (by omega)
      omega
theorem dropFaults_length (l : List Node) : (dropFaults l).length = l.length - (faultsOf l).length := by
  have h := faults_inc l (atOf (bk l)) l.length
  have := (dropAt_length l (faultsOf l) h.1 h.2 (faultsOf l).length (Nat.le_refl _)).1
  rwa [List.take_of_length_le (by rw [bk_length]; exact Nat.le_refl _)] at this
theorem faultsOf_length (l : List Node) : (faultsOf l).length ≤ l.length := faultsUpto_length _ _ _
theorem wholeN_more (l : List Node) : ∀ k j, l.length ≤ k → l.length ≤ j → wholeN k l = wholeN j l := by
  intro k
  induction k generalizing l with
  | zero =>
    intro j hk _
    have hl : l = [] := List.length_eq_zero_iff.1 (by omega)
    subst hl
    cases j with
    | zero => rfl
    | succ j => rw [wholeN, wholeN, if_pos (by rfl)]
  | succ k ih =>
    intro j hk hj
    cases j with
    | zero =>
      have hl : l = [] := List.length_eq_zero_iff.1 (by omega)
      subst hl
      rw [wholeN, wholeN, if_pos (by rfl)]
    | succ j =>
      rw [wholeN, wholeN]
      split
      · rfl
      · rename_i hf
        have hpos : 0 < (faultsOf l).length := List.length_pos_iff.2 hf
        have hle := faultsOf_length l
        have hd := dropFaults_length l
        exact ih _ j (by omega) (by omega)
theorem wholeOf_nil {l : List Node} (h : faultsOf l = []) : wholeOf l = l := by
  unfold wholeOf
  cases hl : l.length with
  | zero => rfl
  | succ k => rw [wholeN, if_pos h]
theorem wholeOf_step {l : List Node} (h : ¬ faultsOf l = []) : wholeOf l = wholeOf (dropFaults l) := by
  have hpos : 0 < (faultsOf l).length := List.length_pos_iff.2 h
  have hle := faultsOf_length l
  have hd := dropFaults_length l
  unfold wholeOf
  rw [wholeN_more l l.length (l.length + 1) (Nat.le_refl _) (by omega), wholeN, if_neg h]
  exact wholeN_more _ _ _ (by omega) (Nat.le_refl _)
theorem KpE.grown2 {n : Nat} {E : Nat → Prop} {W W' : World} {row : Option Nat} (h : W.grownBy W' row) (hr : ∀ r, row = some r → r < n → E r) (hn : n ≤ W.heap.size) : KpE n E W W' :=
  ⟨h.size, fun i hi he => h.block i (by omega) (fun e => he (hr i e.symm hi))⟩
/-- The blocks of W1 that hold nodes or a slice of nodes. -/
def NodeRows (W1 : World) (i : Nat) : Prop := ∃ cells t, W1.heap[i]? = some (.cells cells t (0, 0)) ∧ (t = 37 ∨ t = 22)
theorem NodeRows.of {W1 W : World} {i : Nat} {cells : Array Value} {t : Nat} (hK : KpE W1.heap.size (NodeRows W1) W1 W) (hi : i < W1.heap.size) (h : W.heap[i]? = some (.cells cells t (0, 0))) (ht : t = 37 ∨ t = 22) : NodeRows W1 i :=
  Classical.byContradiction fun hn => hn ⟨cells, t, (hK.2 i hi hn).symm.trans h, ht⟩
set_option maxHeartbeats 1000000 in
set_option maxRecDepth 100000 in
theorem Whole.walk (A0 : Option Addr) (c0 : Nat) (l0 : List Node) (w : World) (hr0 : Kd.C k37 w A0 l0.length l0) (hc0 : l0.length ≤ c0) (hl : l0.length ≤ 1000000) :
    Calls Tryd.prog 14 #[.slice A0 l0.length c0] w fun e w' => ∃ v0_ : Value, e = .returned (.tuple #[v0_, .int .i64 (if storeOk l0 then 0 else 2)]) ∧ Kd.R k37 37 w' w.heap.size (fun _ => True) v0_ (if storeOk l0 then wholeOf l0 else []) ∧ Below w.heap.size w w' := by
  have HR := Aside0.mk hr0
  have HC := Aside0.mk hc0
  clear hr0 hc0
  obtain ⟨b, Hb⟩ : ∃ b, Aside0 (storeOk l0 = b) := ⟨_, ⟨rfl⟩⟩
  rw [Hb.out]
  refine calls_of_wp_m Tryd.func14 rfl ?_
  simp only [Tryd.ntmps14, List.size_toArray, List.length_cons, List.length_nil, Nat.reduceAdd, Nat.reduceSub, Array.replicate_succ, Array.replicate_zero, List.push_toArray, List.append_toArray, List.nil_append, List.cons_append]
  go_wp2_with fail
  refine (store_Valid.calls A0 c0 l0 b _ HR.out HC.out (by unfold store_Valid.f; rw [if_pos hl, Hb.out])).mono ?_
  rintro e w1 ⟨rfl, hb1⟩
  cases b with
  | false =>
    go_wp2_with fail
    exact ⟨_, results_tmp2 rfl _ _ _, _, rfl, Kd.R_nil _ _ _ _ _, hb1⟩
  | true =>
    have HW1 := Aside0.mk (Kd.C_below HR.out hb1)
    have HB1 := Aside0.mk hb1
    clear hb1
    go_wp2_with fail
    refine (CloneNode.calls A0 c0 l0 _ HW1.out hl).mono ?_
    rintro e w2 ⟨v, rfl, ho2, hb2⟩
    obtain ⟨A2, c2, rfl⟩ := Kd.R_slice ho2
    obtain ⟨n2, Hn2⟩ : ∃ n, Aside0 (l0.length = n) := ⟨_, ⟨rfl⟩⟩
    rw [Hn2.out] at ho2 ⊢
    have HO2 := Aside0.mk ho2
    have HB2 := Aside0.mk hb2
    clear ho2 hb2
    go_wp2_with fail
    have hB := blk_new w2 (.cells #[.slice A2 n2 c2] 22)
    have hsz : (w2.alloc (.cells #[.slice A2 n2 c2] 22)).heap.size = w2.heap.size + 1 := by simp
    have ho3 := Kd.R_lower (Kd.R_below HO2.out ((Below.refl _ w2).alloc (Nat.le_refl _) (.cells #[.slice A2 n2 c2] 22))) HB1.out.size
    have hb3 : Below w.heap.size w (w2.alloc (.cells #[.slice A2 n2 c2] 22)) := below_alloc (below_then HB1.out HB1.out.size HB2.out) _
    have hbx : w.heap.size ≤ w2.heap.size := Nat.le_trans HB1.out.size HB2.out.size
    generalize w2.alloc (.cells #[.slice A2 n2 c2] 22) = W3 at *
    obtain ⟨B, HBX⟩ : ∃ B, Aside0 (w2.heap.size = B) := ⟨_, ⟨rfl⟩⟩
    rw [HBX.out] at hB hbx ⊢
    have HBB := Aside0.mk hB
    have HO3 := Aside0.mk ho3
    have HB3 := Aside0.mk hb3
    have HX0 := Aside0.mk hbx
    have HL := Aside0.mk hl
    clear hB hsz ho3 hb3 hbx HO2 HB2 HB1 HBX HW1 hl
    refine wp_loop_ghost_k (fun k a W => ∃ (ds : List Deferred) (u5 u13 u14 u15 u16 u17 u19 u20 : Value) (m : List Node) (Av : Option Addr) (nm cv : Nat), Aside0 (m.length = nm) ∧ Aside0 (W.heap[B]? = some (.cells #[.slice Av nm cv] 22 (0, 0))) ∧ Aside0 (Kd.R k37 37 W w.heap.size (fun _ => True) (.slice Av nm cv) m) ∧ Aside0 (Below w.heap.size w W) ∧ Aside0 (Marks w.heap.size ds W) ∧ Aside0 (wholeOf m = wholeOf l0) ∧ Aside0 (m.length ≤ 1000000) ∧ Aside0 (k = nm) ∧
      a = { tmps := #[.slice A0 n2 c0, undef, .slice none 0 0, .int .i64 0, .pointer (some ⟨B, 0, none⟩), u5, undef, undef, .slice A0 n2 c0, .bool true, .bool false, .slice A0 n2 c0, .slice A2 n2 c2, u13, u14, u15, u16, u17, undef, u19, u20, undef, undef, undef, undef, undef, undef, undef, undef, undef], defers := ds }) n2 ⟨[], _, _, _, _, _, _, _, _, l0, A2, n2, c2, Hn2, HBB, HO3, HB3, ⟨Marks.nil _ _⟩, ⟨rfl⟩, HL, ⟨rfl⟩, rfl⟩ ?_
    rintro k a wr ⟨ds, u5, u13, u14, u15, u16, u17, u19, u20, m, Av, nm, cv, HNM, HBB, HO, HBW, HM, HWH, HML, HK, rfl⟩
    intro J K hJ hKK
    have hc0 : wr.cell? ⟨B, 0, none⟩ = _ := (blk_cell HBB.out 0).trans rfl
    go_wp2_with fail
    obtain ⟨Av', cv', e, hcv, hC⟩ := Kd.R_reads HO.out
    rw [HNM.out] at e hcv hC
    cases e
    have HC2 := Aside0.mk hC
    have HCV := Aside0.mk hcv
    clear hC hcv
    have hf := Faults.walk Av cv m wr (by rw [HNM.out]; exact HC2.out) (by rw [HNM.out]; exact HCV.out) HML.out
    rw [HNM.out] at hf
    refine hf.mono ?_
    clear hf
    rintro e w4 ⟨vf, rfl, hof, hb4⟩
    obtain ⟨Af, cf, rfl⟩ := Kd.R_slice hof
    obtain ⟨fs, Hfs⟩ : ∃ fs, Aside0 (faultsOf m = fs) := ⟨_, ⟨rfl⟩⟩
    rw [Hfs.out] at hof ⊢
    obtain ⟨nf, Hnf⟩ : ∃ n, Aside0 (fs.length = n) := ⟨_, ⟨rfl⟩⟩
    rw [Hnf.out] at hof ⊢
    have HO := Aside0.mk (Kd.R_below HO.out hb4)
    have HBB := Aside0.mk (blk_keep HBB.out hb4)
    have HBW := Aside0.mk (below_more HBW.out hb4)
    have HM := Aside0.mk (HM.out.below hb4)
    have HOF := Aside0.mk hof
    have HSZ := Aside0.mk hb4.size
    have hc1 : w4.cell? ⟨B, 0, none⟩ = _ := (blk_cell HBB.out 0).trans rfl
    clear hof hb4 hc0
    by_cases hz : (nf : Int) = 0
    · have hzb : ((nf : Int) == 0) = true := beq_iff_eq.2 hz
      have HZ0 := Aside0.mk hz
      clear hz
      go_wp2
      exact leaves_of_marks (results_tmp2 rfl _ _) _ _ HM.out (fun W' hm => ⟨_, rfl, R_onlyMarks (by rw [← HWH.out, wholeOf_nil (by rw [Hfs.out]; exact List.length_eq_zero_iff.1 (by have := Hnf.out; have := HZ0.out; omega))]; exact HO.out) hm, below_onlyMarks HBW.out hm⟩)
    · have hzb : ((nf : Int) == 0) = false := beq_eq_false_iff_ne.2 hz
      have HZ := Aside0.mk hz
      clear hz
      go_wp2_with fail
      refine (BackwardFault.calls _ _ _ _).mono ?_
      rintro e w5 ⟨rfl, rfl⟩
      go_wp2_with fail
      have hBS := blk_new w4 (.cells #[.slice Af nf cf] 25)
      have hb5 : Below w4.heap.size w4 (w4.alloc (.cells #[.slice Af nf cf] 25)) := (Below.refl _ w4).alloc (Nat.le_refl _) _
      have hsz5 : (w4.alloc (.cells #[.slice Af nf cf] 25)).heap.size = w4.heap.size + 1 := by simp
      clear hc1
      generalize hW1 : w4.alloc (.cells #[.slice Af nf cf] 25) = W1 at *
      have HO1 := Aside0.mk (Kd.R_below HO.out hb5)
      have HBB1 := Aside0.mk (blk_keep HBB.out hb5)
      have HBW1 := Aside0.mk (below_more HBW.out hb5)
      have HM1 := Aside0.mk (HM.out.below hb5)
      have HOF1 := Aside0.mk (Kd.R_below HOF.out hb5)
      have HBS := Aside0.mk hBS
      have HS5 := Aside0.mk hsz5
      obtain ⟨_, _, e, _, hC5⟩ := Kd.R_reads HOF1.out
      rw [Hnf.out] at e hC5
      cases e
      have HC5 := Aside0.mk hC5
      have HTY := Aside0.mk (Kd.R_typed HOF1.out)
      have HN1 : Aside0 (fs.length ≤ m.length) := ⟨by rw [← Hfs.out]; exact faultsOf_length m⟩
      have HINC : Aside0 (fs.Pairwise (fun a b => a.f0 < b.f0) ∧ ∀ f ∈ fs, 0 ≤ f.f0 ∧ f.f0 < m.length) := ⟨by rw [← Hfs.out]; exact faults_inc m _ _⟩
      clear hBS hb5 hsz5 hC5 hW1 HO HBB HBW HM HOF
      refine wpIn_wide.1 (ListRange.wpIn_range (n := 9) (F := Fence.wide) rfl (by decide) (gf := 68) (lb := #[.pointer (some ⟨w4.heap.size, 0, none⟩)]) rfl trivial Tryd.call68
        (encs := fun x : Nat × Fault => #[.int .i64 (x.1 : Int), vFault x.2]) (Kp := KpE W1.heap.size (NodeRows W1)) (L := bk fs) (w0 := W1)
        (fun lp J Jx W hWW _ _ hY h0 => bkFault_in 8 lp w4.heap.size W1.heap.size (NodeRows W1) Af cf fs (by decide) (Nat.le_trans HN1.out HML.out) J Jx hY W (by rw [Hnf.out]; exact (hWW.cell (p := ⟨w4.heap.size, 0, none⟩) (by show w4.heap.size < _; have := HS5.out; omega)).trans ((blk_cell HBS.out 0).trans rfl)) (by have := HS5.out; omega)
          (by rintro ⟨cells, t, h1, h2⟩; rw [HBS.out] at h1; cases h1; revert h2; decide)
          (fun ad e hp => by
            obtain ⟨g, cap, e2, _, hlt, cells, hce⟩ := Kd.R_form HOF1.out hp
            cases e2; cases e
            exact ⟨hlt, by rintro ⟨cells, t, h1, h2⟩; rw [hce] at h1; cases h1; revert h2; decide⟩)
          (by rw [Hnf.out]; exact Kd.C_below HC5.out hWW) h0)
        (fun h k => h.trans k) (fun W l o o' hl _ _ _ => KpE.put (Nat.le_refl _) W l o o' hl) (Below.refl _ _) (fun _ => rfl)
        (fun k W => ∃ (Av : Option Addr) (nm cv : Nat), (dropAt m ((bk fs).take k)).length = nm ∧ W.heap[B]? = some (.cells #[.slice Av nm cv] 22 (0, 0)) ∧ Kd.R k37 37 W w.heap.size (fun _ => True) (.slice Av nm cv) (dropAt m ((bk fs).take k)) ∧ Below w.heap.size w W ∧ KpE W1.heap.size (NodeRows W1) W1 W)
        (fun _ _ _ => False)
        ?own (fun _ _ _ _ _ hs _ _ => hs) ⟨Av, nm, cv, HNM.out, HBB1.out, HO1.out, HBW1.out, KpE.refl _ _ _⟩
        (fun x a' W => ∃ Bx, W1.heap.size ≤ Bx ∧ W.heap[Bx]? = some (.cells #[.int .i64 x.2.f0, .int .i64 x.2.f1] 44 (0, 0)) ∧ a' = { tmps := #[.slice A0 n2 c0, undef, .slice none 0 0, .int .i64 0, .pointer (some ⟨B, 0, none⟩), .slice Af nf cf, undef, .pointer (some ⟨Bx, 0, none⟩), .slice A0 n2 c0, .bool true, .bool false, .slice A0 n2 c0, .slice A2 n2 c2, .slice Av nm cv, .slice Af nf cf, .slice Af nf cf, .int .i64 nf, .bool false, undef, .slice Af nf cf, .func (.func 68) #[] #[.pointer (some ⟨w4.heap.size, 0, none⟩)], .int .i64 (x.1 : Int), vFault x.2, undef, undef, undef, undef, undef, undef, undef], defers := [] })
        (fun x a' _ W W' row hs hg hr => by
          obtain ⟨Bx, h1, h2, h3⟩ := hs
          exact ⟨Bx, h1, (hg.block Bx (blk_lt h2) (fun e => by obtain ⟨_, o, ho, hc⟩ := hr Bx e.symm; rw [h2] at ho; cases ho; cases hc)).trans h2, h3⟩)
        ?assign ?body ?done ?stop)
      case own =>
        rintro k W W' row ⟨Av, nm, cv, h1, h2, h3, h4, h5⟩ hg hr
        refine ⟨Av, nm, cv, h1, blk_own (γ := Unit) (B := W1.heap.size) (cs := fun _ => #[.slice Av nm cv]) () W W' row h2 hg hr, ?_, ?_, ?_⟩
        · exact Kd.R_mono (Kd.R_grown (Kd.R_bound h3) hg (fun k hk e => by
            obtain ⟨_, _, _, q, _, cells, hh⟩ := hk
            obtain ⟨_, o, ho, hc⟩ := hr k e.symm
            rw [hh] at ho; cases ho; cases hc)) (fun _ hk => hk.1)
        · exact h4.grown hg h4.size (fun k e => Nat.le_trans HBW1.out.size (hr k e).1)
        · exact h5.trans (KpE.grown2 hg (fun r e hlt => by have := (hr r e).1; omega) h5.1)
      case assign =>
        rintro l k x W K hx ⟨Av, nm, cv, h1, h2, h3, h4, h5⟩ hK
        gi_wp2
        refine hK _ _ ((KeepsOthers.alloc _ _).from _) (KpE.below ((Below.refl _ W).alloc h5.1 _)) ⟨Av, nm, cv, h1, blk_alloc h2 _, Kd.R_below h3 ((Below.refl _ W).alloc (Nat.le_refl _) _), h4.alloc h4.size _, h5.trans (KpE.below ((Below.refl _ W).alloc h5.1 _))⟩ ⟨W.heap.size, h5.1, blk_new _ _, rfl⟩
      case body =>
        rintro l k x a' W hx hl2 ⟨rr, hrr⟩ ⟨Av', nm', cv', h1, h2, h3, h4, h5⟩ ⟨Bx, hx1, hx2, rfl⟩
        have hc0 : W.cell? ⟨B, 0, none⟩ = _ := (blk_cell h2 0).trans rfl
        have hc1 : W.cell? ⟨Bx, 0, none⟩ = _ := (blk_cell hx2 0).trans rfl
        have hk : k < fs.length := by have := (List.getElem?_eq_some_iff.1 hx).1; rwa [bk_length] at this
        have hxe : x = (fs.length - 1 - k, fs[fs.length - 1 - k]'(by omega)) := by rw [bk_get fs k hk] at hx; exact (Option.some.inj hx).symm
        have hda := dropAt_length m fs HINC.out.1 HINC.out.2 k (by omega)
        have hi0 : 0 ≤ x.2.f0 := by rw [hxe]; exact (HINC.out.2 _ (List.getElem_mem _)).1
        have hi1 : x.2.f0 < ((m.length - k : Nat) : Int) := by rw [hxe]; exact hda.2 _ (by omega) (by omega)
        have hm0 := HML.out
        obtain ⟨i, Hi⟩ : ∃ i : Nat, Aside0 (x.2.f0 = i) := ⟨x.2.f0.toNat, ⟨by omega⟩⟩
        have hii : i < (dropAt m ((bk fs).take k)).length := by rw [hda.1]; have := Hi.out; omega
        have hw : wrap64 ((i : Int) + 1) = ((i + 1 : Nat) : Int) := by
          have : i ≤ 1000000 := by have := Hi.out; omega
          have := (by omega : -9223372036854775808 ≤ (i : Int) + 1 ∧ (i : Int) + 1 ≤ 9223372036854775807)
          unfold wrap64; omega
        have hll : (dropAt m ((bk fs).take k)).length ≤ 1000000 := by rw [hda.1]; omega
        have HX := Aside0.mk hx
        have HDN : Aside0 (dropAt m ((bk fs).take (k + 1)) = (dropAt m ((bk fs).take k)).eraseIdx i) := ⟨by
          rw [bk_take_succ fs k hk, dropAt_snoc, ← hxe, Hi.out]; rfl⟩
        have H1 := Aside0.mk h1
        have H2 := Aside0.mk h2
        have H3 := Aside0.mk h3
        have H4 := Aside0.mk h4
        have H5 := Aside0.mk h5
        have HI := Aside0.mk hii
        have HLL := Aside0.mk hll
        have HX2 := Aside0.mk hx2
        clear hx hxe hda hi0 hi1 hm0 h1 h2 h3 h4 h5 hii hll hx2 hk
        obtain ⟨x0, x1⟩ := x
        obtain ⟨f0, f1⟩ := x1
        dsimp only at Hi hc1 ⊢
        obtain rfl := Hi.out
        gi_wp2
        rw [show ((i : Int) + 1) = ((i + 1 : Nat) : Int) from by omega]
        refine ⟨trivial, CallsIn.inRound l (CallsIn.mono (callsIn_wide.2 (DeleteNode.calls w.heap.size _ _ i (i + 1) rfl W H3.out HI.out HLL.out)) ?_)⟩
        rintro e W' ⟨v2, rfl, ho2, hg2⟩
        obtain ⟨A6, c6, rfl⟩ := Kd.R_slice ho2
        obtain ⟨n6, Hn6⟩ : ∃ n, Aside0 (((dropAt m ((bk fs).take k)).eraseIdx i).length = n) := ⟨_, ⟨rfl⟩⟩
        rw [Hn6.out] at ho2 ⊢
        have hne : some B ≠ (Value.slice Av' nm' cv').ownBlock := R_apart_obj H3.out H2.out (fun cells h => by cases h)
        have hB2 : W'.heap[B]? = some (.cells #[.slice Av' nm' cv'] 22 (0, 0)) := (hg2.block _ (blk_lt H2.out) hne).trans H2.out
        have hc3 : W'.cell? ⟨B, 0, none⟩ = _ := (blk_cell hB2 0).trans rfl
        have hfz := blk_frozen hB2 0
        have hown : ∀ r, (Value.slice Av' nm' cv').ownBlock = some r → r < W1.heap.size → NodeRows W1 r := fun r e hlt => by
          obtain ⟨cells, hc⟩ := Kd.R_typed H3.out r e
          exact NodeRows.of H5.out hlt hc (.inl rfl)
        have HK6 := Aside0.mk (KpE.grown2 hg2 hown H5.out.1)
        have HW6 := Aside0.mk (H4.out.grown hg2 H4.out.size (fun r e => by
          by_cases hr : r < w.heap.size
          · exfalso
            obtain ⟨g, cap, e2, hge, _⟩ := Kd.R_form H3.out (by have := HI.out; omega)
            rw [e2] at e
            have : g = r := by simpa [Value.ownBlock] using e
            omega
          · omega))
        have HKF := Aside0.mk (show KeepsFrom W1.heap.size W W' from ⟨hg2.size, fun q o hB hq hoc => by
          refine (hg2.block q (blk_lt hq) (fun e => ?_)).trans hq
          obtain ⟨cells, hc⟩ := Kd.R_typed H3.out q e.symm
          rw [hq] at hc; cases hc; cases hoc⟩)
        have HB2 := Aside0.mk hB2
        have HO2 := Aside0.mk ho2
        clear hB2 ho2 hg2 hne hown
        gi_wp2
        have hg7 := grownBy_setCell' W' B (.slice A6 n6 c6)
        have hBl : B < W1.heap.size := blk_lt HBB1.out
        refine ⟨HKF.out.trans (KeepsFrom.of_grownBy hg7 (fun j e => by cases e; exact hBl)), ?_, A6, n6, c6, ?_, blk_put HB2.out 0 _ rfl, ?_, ?_, ?_⟩
        · exact HK6.out.trans (KpE.grown2 hg7 (fun r e _ => by cases e; exact ⟨_, _, HBB1.out, .inr rfl⟩) (Nat.le_trans H5.out.1 HK6.out.1))
        · rw [HDN.out]; exact Hn6.out
        · rw [HDN.out]; exact Kd.R_set HO2.out HB2.out (by decide) 0 _
        · exact HW6.out.grown hg7 HW6.out.size (fun r e => by cases e; exact HX0.out)
        · exact (H5.out.trans HK6.out).trans (KpE.grown2 hg7 (fun r e _ => by cases e; exact ⟨_, _, HBB1.out, .inr rfl⟩) (Nat.le_trans H5.out.1 HK6.out.1))
      case done =>
        rintro D W hD ⟨Av', nm', cv', h1, h2, h3, h4, h5⟩ hDK
        have htk : (bk fs).take (bk fs).length = bk fs := List.take_length
        rw [htk] at h1 h3
        have hdf : dropAt m (bk fs) = dropFaults m := by unfold dropFaults; rw [Hfs.out]
        rw [hdf] at h1 h3
        have hfl := dropFaults_length m
        rw [Hfs.out] at hfl
        have hn1 := HN1.out
        have hz := HZ.out
        have hnf := Hnf.out
        have hml := HML.out
        have hnm := HNM.out
        have hkk := HK.out
        have hne : ¬ faultsOf m = [] := by rw [Hfs.out]; intro e; rw [e] at hnf; simp at hnf; omega
        show K _ _
        refine hKK _ _ (Handed.intro nm' (by omega) (hJ _ _ _ ⟨_, _, _, _, _, _, _, _, _, dropFaults m, Av', nm', cv', ⟨h1⟩, ⟨h2⟩, ⟨h3⟩, ⟨h4⟩, ⟨?_⟩, ⟨(wholeOf_step hne).symm.trans HWH.out⟩, ⟨by omega⟩, ⟨rfl⟩, rfl⟩))
        obtain ⟨Ds, e, hnd, hDs⟩ := HM1.out
        refine ⟨D :: Ds, by rw [e]; rfl, List.nodup_cons.2 ⟨fun hmem => by have := blk_lt (hDs D hmem).2; omega, hnd⟩, fun E hE => ?_⟩
        rcases List.mem_cons.1 hE with rfl | hE
        · exact ⟨Nat.le_trans HBW1.out.size hD, hDK⟩
        · refine ⟨(hDs E hE).1, (h5.2 E (blk_lt (hDs E hE).2) ?_).trans (hDs E hE).2⟩
          rintro ⟨cells, t, hh, _⟩
          rw [(hDs E hE).2] at hh; cases hh
      case stop =>
        rintro D c k W _ _ h _
        exact h.elim
def shape_Whole.f (l0 : List Node) : Option (List Node × Int) := if l0.length ≤ 1000000 then some (if storeOk l0 then (wholeOf l0, 0) else ([], 2)) else none
theorem shape_Whole.calls (A0 : Option Addr) (c0 : Nat) (l0 : List Node) (r0 : List Node) (r1 : Int) (w : World) (hr0 : Kd.C k37 w A0 l0.length l0) (hc0 : l0.length ≤ c0) (h : shape_Whole.f l0 = some (r0, r1)) :
    Calls Tryd.prog 14 #[.slice A0 l0.length c0] w fun e w' => ∃ v0_ : Value, e = .returned (.tuple #[v0_, .int .i64 r1]) ∧ Kd.R k37 37 w' w.heap.size (fun _ => True) v0_ r0 ∧ Below w.heap.size w w' := by
  unfold shape_Whole.f at h
  by_cases hl : l0.length ≤ 1000000
  · rw [if_pos hl] at h
    have hw := Whole.walk A0 c0 l0 w hr0 hc0 hl
    by_cases hs : storeOk l0 = true
    · rw [if_pos hs] at h
      obtain ⟨rfl, rfl⟩ := Prod.mk.inj (Option.some.inj h)
      rw [if_pos hs, if_pos hs] at hw
      exact hw
    · rw [if_neg hs] at h
      obtain ⟨rfl, rfl⟩ := Prod.mk.inj (Option.some.inj h)
      rw [if_neg hs, if_neg hs] at hw
      exact hw
  · rw [if_neg hl] at h; cases h
end

/-! ### redpencillaw13_whole: function 13 -/
def redpencillaw13_whole.f (k : Nat) (l0 : List (S37)) (l1 : List (S37)) (a2 : Int) : Option (Bool) := (shape_Whole.f l0).bind fun bt155 => ((redpencilref10_Equal.f k bt155.1 l1).bind fun t159 => (if t159 = true then (some (bt155.2 == a2)) else (some false)))
theorem redpencillaw13_whole.mono : ∀ a0 a1 a2 k, LeO (redpencillaw13_whole.f k a0 a1 a2) (redpencillaw13_whole.f (k + 1) a0 a1 a2) := by
  intro a0 a1 a2 k
  unfold redpencillaw13_whole.f
  repeat' first
      | (with_reducible exact redpencilref10_Equal.mono _ _ _)
      | (with_reducible exact LeO.refl _)
      | (with_reducible exact LeO.none _)
      | (with_reducible refine LeO.ite ?_ ?_)
      | (with_reducible refine LeO.bind ?_ (fun _ => ?_))
      | exact redpencilref10_Equal.mono _ _ _
      | exact LeO.none _
      | refine LeO.ite ?_ ?_
      | refine LeO.bind ?_ (fun _ => ?_)
set_option maxHeartbeats 8000000 in
set_option maxRecDepth 100000 in
theorem redpencillaw13_whole.calls (k : Nat) (A0 : Option Addr) (c0 : Nat) (l0 : List (S37)) (A1 : Option Addr) (c1 : Nat) (l1 : List (S37)) (a2 : Int) (r : Bool) (w : World) (hr0 : Kd.C k37 w A0 l0.length l0) (hc0 : l0.length ≤ c0) (hr1 : Kd.C k37 w A1 l1.length l1) (hc1 : l1.length ≤ c1) (h : redpencillaw13_whole.f k l0 l1 a2 = some r) :
    Calls Tryd.prog 13 #[.slice A0 l0.length c0, .slice A1 l1.length c1, .int .i64 a2] w fun e w' => e = .returned (.bool r) ∧ Below w.heap.size w w' := by
  have HR0 := Aside0.mk hr0
  have HC0 := Aside0.mk hc0
  clear hr0 hc0
  have HR1 := Aside0.mk hr1
  have HC1 := Aside0.mk hc1
  clear hr1 hc1
  have HB := Aside0.mk (Below.refl w.heap.size w)
  have H : ((shape_Whole.f l0).bind fun bt155 => ((redpencilref10_Equal.f k bt155.1 l1).bind fun t159 => (if t159 = true then (some (bt155.2 == a2)) else (some false)))) = some r := h
  clear h
  replace H := Option.bind_eq_some_iff.mp H
  obtain ⟨⟨t155, t156⟩, A40, H⟩ := H
  replace H : ((redpencilref10_Equal.f k t155 l1).bind fun t159 => (if t159 = true then (some (t156 == a2)) else (some false))) = some r := H
  have A4 := Aside0.mk A40
  clear A40
  replace H := Option.bind_eq_some_iff.mp H
  obtain ⟨t159, A50, H⟩ := H
  replace H : (if t159 = true then (some (t156 == a2)) else (some false)) = some r := H
  have A5 := Aside0.mk A50
  clear A50
  by_cases c6 : t159 = true
  · subst c6
    have H1 : (some (t156 == a2)) = some r := by rw [if_pos rfl] at H; exact H
    clear H
    have H := H1
    clear H1
    obtain rfl := Option.some.inj H
    go_enter Tryd.func13, Tryd.ntmps13
    go_wp2_with (first | ((with_reducible refine gate_callee (f := 14) rfl ?_); refine goesL_ (some 11) rfl rfl Tryd.func14 (by kernel_rfl) rfl #[.slice A0 l0.length c0] rfl (by (try simp only [List.map_toArray, List.map_cons, List.map_nil]); first | done | rfl | (simp only [List.length_drop, List.length_take]; rfl)) ?_; (with_reducible refine (shape_Whole.calls _ _ l0 t155 t156 _ ?side1 ?side2 A4.out).mono ?_); (case side1 => repeat (first | exact HR0.out | (with_reducible refine Kd.C_alloc ?_ _) | (with_reducible refine Kd.C_drewN ?_ _) | (with_reducible refine Kd.C_drew ?_))); (case side2 => exact HC0.out); rintro e w7 ⟨v157, rfl, ho0, hb⟩; refine ⟨_, rfl, ?_⟩; have n0_ := Aside0.mk (Kd.R_lower ho0 (below_size (by repeat (first | (with_reducible first | exact HB.out | apply below_alloc | apply pw_below_drewN | apply below_drew1) | exact HB.out)))); have n1_ := Aside0.mk (below_step (by repeat (first | (with_reducible first | exact HB.out | apply below_alloc | apply pw_below_drewN | apply below_drew1) | exact HB.out)) hb); clear HB; have HO158 := n0_; have HB := n1_; clear n0_ n1_; (try clear hb); (try clear hb2); (try clear hk); (try clear hi); (try clear ho0); obtain ⟨Ao8, co8, eo8⟩ := Kd.R_slice HO158.out; subst eo8) | ((with_reducible refine gate_callee (f := 11) rfl ?_); refine goesL_ (some 16) rfl rfl Tryd.func11 (by kernel_rfl) rfl #[.slice Ao8 t155.length co8, .slice A1 l1.length c1] rfl (by (try simp only [List.map_toArray, List.map_cons, List.map_nil]); first | done | rfl | (simp only [List.length_drop, List.length_take]; rfl)) ?_; (with_reducible refine (redpencilref10_Equal.calls k _ _ t155 _ _ l1 true _ ?side1 ?side2 ?side3 ?side4 A5.out).mono ?_); (case side1 => repeat (first | exact (Kd.R_reads' HO158.out).2.2 | (with_reducible refine Kd.C_alloc ?_ _) | (with_reducible refine Kd.C_drewN ?_ _) | (with_reducible refine Kd.C_drew ?_))); (case side2 => exact (Kd.R_reads' HO158.out).2.1); (case side3 => repeat (first | exact (Kd.C_below HR1.out HB.out) | (with_reducible refine Kd.C_alloc ?_ _) | (with_reducible refine Kd.C_drewN ?_ _) | (with_reducible refine Kd.C_drew ?_))); (case side4 => exact HC1.out); rintro e w' ⟨rfl, ⟨nd, rfl⟩⟩; refine ⟨_, rfl, ?_⟩))
    go_ret
    exact ⟨by first | rfl | (simp [errW_none, errW_some] <;> rfl) | (simp [*, errW_none, errW_some] <;> rfl), by repeat (first | (with_reducible first | exact HB.out | apply below_alloc | apply pw_below_drewN | apply below_drew1) | exact HB.out)⟩
  · replace c6 := Bool.eq_false_iff.mpr c6
    subst c6
    have H1 : (some false) = some r := by rw [if_neg (show ¬ (false = true) by decide)] at H; exact H
    clear H
    have H := H1
    clear H1
    obtain rfl := Option.some.inj H
    go_enter Tryd.func13, Tryd.ntmps13
    go_wp2_with (first | ((with_reducible refine gate_callee (f := 14) rfl ?_); refine goesL_ (some 11) rfl rfl Tryd.func14 (by kernel_rfl) rfl #[.slice A0 l0.length c0] rfl (by (try simp only [List.map_toArray, List.map_cons, List.map_nil]); first | done | rfl | (simp only [List.length_drop, List.length_take]; rfl)) ?_; (with_reducible refine (shape_Whole.calls _ _ l0 t155 t156 _ ?side1 ?side2 A4.out).mono ?_); (case side1 => repeat (first | exact HR0.out | (with_reducible refine Kd.C_alloc ?_ _) | (with_reducible refine Kd.C_drewN ?_ _) | (with_reducible refine Kd.C_drew ?_))); (case side2 => exact HC0.out); rintro e w9 ⟨v157, rfl, ho0, hb⟩; refine ⟨_, rfl, ?_⟩; have n0_ := Aside0.mk (Kd.R_lower ho0 (below_size (by repeat (first | (with_reducible first | exact HB.out | apply below_alloc | apply pw_below_drewN | apply below_drew1) | exact HB.out)))); have n1_ := Aside0.mk (below_step (by repeat (first | (with_reducible first | exact HB.out | apply below_alloc | apply pw_below_drewN | apply below_drew1) | exact HB.out)) hb); clear HB; have HO158 := n0_; have HB := n1_; clear n0_ n1_; (try clear hb); (try clear hb2); (try clear hk); (try clear hi); (try clear ho0); obtain ⟨Ao10, co10, eo10⟩ := Kd.R_slice HO158.out; subst eo10) | ((with_reducible refine gate_callee (f := 11) rfl ?_); refine goesL_ (some 16) rfl rfl Tryd.func11 (by kernel_rfl) rfl #[.slice Ao10 t155.length co10, .slice A1 l1.length c1] rfl (by (try simp only [List.map_toArray, List.map_cons, List.map_nil]); first | done | rfl | (simp only [List.length_drop, List.length_take]; rfl)) ?_; (with_reducible refine (redpencilref10_Equal.calls k _ _ t155 _ _ l1 false _ ?side1 ?side2 ?side3 ?side4 A5.out).mono ?_); (case side1 => repeat (first | exact (Kd.R_reads' HO158.out).2.2 | (with_reducible refine Kd.C_alloc ?_ _) | (with_reducible refine Kd.C_drewN ?_ _) | (with_reducible refine Kd.C_drew ?_))); (case side2 => exact (Kd.R_reads' HO158.out).2.1); (case side3 => repeat (first | exact (Kd.C_below HR1.out HB.out) | (with_reducible refine Kd.C_alloc ?_ _) | (with_reducible refine Kd.C_drewN ?_ _) | (with_reducible refine Kd.C_drew ?_))); (case side4 => exact HC1.out); rintro e w' ⟨rfl, ⟨nd, rfl⟩⟩; refine ⟨_, rfl, ?_⟩))
    go_ret
    exact ⟨by first | rfl | (simp [errW_none, errW_some] <;> rfl) | (simp [*, errW_none, errW_some] <;> rfl), by repeat (first | (with_reducible first | exact HB.out | apply below_alloc | apply pw_below_drewN | apply below_drew1) | exact HB.out)⟩

-- NOT PRINTED: function 16 (shape_Word)

/-! ### redpencillaw13_of: function 18 -/
def redpencillaw13_of.f (a0_0 : Int) (a0_1 : Int) (a1_0 : Int) (a1_1 : Int) (a2 : Int) (a3 : Int) : Option (Int × Int × Int × Int × Int × Int) := some (a0_0, a0_1, a1_0, a1_1, a2, a3)
set_option maxHeartbeats 8000000 in
set_option maxRecDepth 100000 in
theorem redpencillaw13_of.calls (a0_0 : Int) (a0_1 : Int) (a1_0 : Int) (a1_1 : Int) (a2 : Int) (a3 : Int) (r1 : Int) (r2 : Int) (r3 : Int) (r4 : Int) (r5 : Int) (r6 : Int) (w : World) (h : redpencillaw13_of.f a0_0 a0_1 a1_0 a1_1 a2 a3 = some (r1, r2, r3, r4, r5, r6)) :
    Calls Tryd.prog 18 #[.agg #[.int .i64 a0_0, .int .i64 a0_1], .agg #[.int .i64 a1_0, .int .i64 a1_1], .int .i64 a2, .int .i32 a3] w fun e w' => e = .returned (.agg #[.int .i64 r1, .int .i64 r2, .int .i64 r3, .int .i64 r4, .int .i64 r5, .int .i32 r6]) ∧ Below w.heap.size w w' := by
  have hu35 := Tryd.underlying35
  have hu37 := Tryd.underlying37
  have HB := Aside0.mk (Below.refl w.heap.size w)
  have H : (some (a0_0, a0_1, a1_0, a1_1, a2, a3)) = some (r1, r2, r3, r4, r5, r6) := h
  clear h
  simp only [Option.some.injEq, Prod.mk.injEq] at H
  obtain ⟨rfl, rfl, rfl, rfl, rfl, rfl⟩ := H
  go_enter Tryd.func18, Tryd.ntmps18
  go_wp2_with (first | ((with_reducible refine gate_dst (N := 4) rfl ?_); refine box_event ?hg (N := 4) ?hd (cs := #[.int .i64 a0_0, .int .i64 a0_1]) (t := 35) ?hr ?_; (case hd => rfl); (case hg => rfl); (case hr => first | (go_simp; done) | (go_simp; rfl)); intro gb160 hg w5 hbox hb; have n0_ := Aside0.mk (below_step (by repeat (first | (with_reducible first | exact HB.out | apply below_alloc | apply pw_below_drewN | apply below_drew1) | exact HB.out)) hb); have n1_ := Aside0.mk (hbox); have n2_ := Aside0.mk ((by rw [hg]; exact (below_size (by repeat (first | (with_reducible first | exact HB.out | apply below_alloc | apply pw_below_drewN | apply below_drew1) | exact HB.out))) : w.heap.size ≤ gb160)); have n3_ := Aside0.mk ((by rw [hg]; exact (below_size (by repeat (first | (with_reducible first | exact HB.out | apply below_alloc | apply pw_below_drewN | apply below_drew1) | exact HB.out))) : w.heap.size ≤ gb160)); clear HB; have HB := n0_; have BK160 := n1_; have GW160 := n2_; have GE160 := n3_; clear n0_ n1_ n2_ n3_; clear hb hbox hg) | ((with_reducible refine gate_dst (N := 5) rfl ?_); refine box_event ?hg (N := 5) ?hd (cs := #[.int .i64 a1_0, .int .i64 a1_1]) (t := 35) ?hr ?_; (case hd => rfl); (case hg => rfl); (case hr => first | (go_simp; done) | (go_simp; rfl)); intro gb161 hg w6 hbox hb; have n0_ := Aside0.mk (blk_below (g := gb160) (o := .cells #[.int .i64 a0_0, .int .i64 a0_1] 35 (0, 0)) (by (with_reducible repeat (first | refine blk_drewN ?_ _ | refine blk_drew ?_ | refine blk_alloc ?_ _)); exact BK160.out) hb); have n1_ := Aside0.mk (below_step (by repeat (first | (with_reducible first | exact HB.out | apply below_alloc | apply pw_below_drewN | apply below_drew1 | refine below_set ?_ GE160.out) | exact HB.out)) hb); have n2_ := Aside0.mk (hbox); have n3_ := Aside0.mk ((by rw [hg]; exact (below_size (by repeat (first | (with_reducible first | exact HB.out | apply below_alloc | apply pw_below_drewN | apply below_drew1 | refine below_set ?_ GE160.out) | exact HB.out))) : w.heap.size ≤ gb161)); have n4_ := Aside0.mk ((by rw [hg]; exact (below_size (by repeat (first | (with_reducible first | exact HB.out | apply below_alloc | apply pw_below_drewN | apply below_drew1 | refine below_set ?_ GE160.out) | exact HB.out))) : w.heap.size ≤ gb161)); have n5_ := Aside0.mk ((by rw [hg]; exact Nat.ne_of_lt (blk_lt (g := gb160) (o := .cells #[.int .i64 a0_0, .int .i64 a0_1] 35 (0, 0)) (by (with_reducible repeat (first | refine blk_drewN ?_ _ | refine blk_drew ?_ | refine blk_alloc ?_ _)); exact BK160.out)) : gb160 ≠ gb161)); have n6_ := Aside0.mk ((by rw [hg]; exact Nat.ne_of_gt (blk_lt (g := gb160) (o := .cells #[.int .i64 a0_0, .int .i64 a0_1] 35 (0, 0)) (by (with_reducible repeat (first | refine blk_drewN ?_ _ | refine blk_drew ?_ | refine blk_alloc ?_ _)); exact BK160.out)) : gb161 ≠ gb160)); clear BK160; clear HB; have BK160 := n0_; have HB := n1_; have BK161 := n2_; have GW161 := n3_; have GE161 := n4_; have NB160_161 := n5_; have NB161_160 := n6_; clear n0_ n1_ n2_ n3_ n4_ n5_ n6_; clear hb hbox hg) | ((with_reducible refine gate_dst (N := 8) rfl ?_); refine box_event ?hg (N := 8) ?hd (cs := #[.int .i64 0, .int .i64 0, .int .i64 0, .int .i64 0, .int .i64 0, .int .i32 0]) (t := 37) ?hr ?_; (case hd => rfl); (case hg => rfl); (case hr => first | (go_simp; done) | (go_simp; rfl)); intro gb162 hg w7 hbox hb; have n0_ := Aside0.mk (blk_below (g := gb160) (o := .cells #[.int .i64 a0_0, .int .i64 a0_1] 35 (0, 0)) (by (with_reducible repeat (first | refine blk_drewN ?_ _ | refine blk_drew ?_ | refine blk_alloc ?_ _)); exact BK160.out) hb); have n1_ := Aside0.mk (blk_below (g := gb161) (o := .cells #[.int .i64 a1_0, .int .i64 a1_1] 35 (0, 0)) (by (with_reducible repeat (first | refine blk_drewN ?_ _ | refine blk_drew ?_ | refine blk_alloc ?_ _)); exact BK161.out) hb); have n2_ := Aside0.mk (below_step (by repeat (first | (with_reducible first | exact HB.out | apply below_alloc | apply pw_below_drewN | apply below_drew1 | refine below_set ?_ GE160.out | refine below_set ?_ GE161.out) | exact HB.out)) hb); have n3_ := Aside0.mk (hbox); have n4_ := Aside0.mk ((by rw [hg]; exact (below_size (by repeat (first | (with_reducible first | exact HB.out | apply below_alloc | apply pw_below_drewN | apply below_drew1 | refine below_set ?_ GE160.out | refine below_set ?_ GE161.out) | exact HB.out))) : w.heap.size ≤ gb162)); have n5_ := Aside0.mk ((by rw [hg]; exact (below_size (by repeat (first | (with_reducible first | exact HB.out | apply below_alloc | apply pw_below_drewN | apply below_drew1 | refine below_set ?_ GE160.out | refine below_set ?_ GE161.out) | exact HB.out))) : w.heap.size ≤ gb162)); have n6_ := Aside0.mk ((by rw [hg]; exact Nat.ne_of_lt (blk_lt (g := gb160) (o := .cells #[.int .i64 a0_0, .int .i64 a0_1] 35 (0, 0)) (by (with_reducible repeat (first | refine blk_drewN ?_ _ | refine blk_drew ?_ | refine blk_alloc ?_ _)); exact BK160.out)) : gb160 ≠ gb162)); have n7_ := Aside0.mk ((by rw [hg]; exact Nat.ne_of_gt (blk_lt (g := gb160) (o := .cells #[.int .i64 a0_0, .int .i64 a0_1] 35 (0, 0)) (by (with_reducible repeat (first | refine blk_drewN ?_ _ | refine blk_drew ?_ | refine blk_alloc ?_ _)); exact BK160.out)) : gb162 ≠ gb160)); have n8_ := Aside0.mk ((by rw [hg]; exact Nat.ne_of_lt (blk_lt (g := gb161) (o := .cells #[.int .i64 a1_0, .int .i64 a1_1] 35 (0, 0)) (by (with_reducible repeat (first | refine blk_drewN ?_ _ | refine blk_drew ?_ | refine blk_alloc ?_ _)); exact BK161.out)) : gb161 ≠ gb162)); have n9_ := Aside0.mk ((by rw [hg]; exact Nat.ne_of_gt (blk_lt (g := gb161) (o := .cells #[.int .i64 a1_0, .int .i64 a1_1] 35 (0, 0)) (by (with_reducible repeat (first | refine blk_drewN ?_ _ | refine blk_drew ?_ | refine blk_alloc ?_ _)); exact BK161.out)) : gb162 ≠ gb161)); clear BK160; clear BK161; clear HB; have BK160 := n0_; have BK161 := n1_; have HB := n2_; have BK162 := n3_; have GW162 := n4_; have GE162 := n5_; have NB160_162 := n6_; have NB162_160 := n7_; have NB161_162 := n8_; have NB162_161 := n9_; clear n0_ n1_ n2_ n3_ n4_ n5_ n6_ n7_ n8_ n9_; clear hb hbox hg; have hnb8 := NB160_161.out; have hnc8 := NB161_160.out; have hnb9 := NB160_162.out; have hnc9 := NB162_160.out; have hcz10_0 : w7.cell? ⟨gb160, 0, none⟩ = some (.int .i64 a0_0) := (blk_cell BK160.out 0).trans rfl; have hcz10_1 : w7.cell? ⟨gb160, 1, none⟩ = some (.int .i64 a0_1) := (blk_cell BK160.out 1).trans rfl; have hfz10_0 := blk_frozen BK160.out 0; have hfz10_1 := blk_frozen BK160.out 1; have hnb11 := NB161_162.out; have hnc11 := NB162_161.out; have hcz12_0 : w7.cell? ⟨gb161, 0, none⟩ = some (.int .i64 a1_0) := (blk_cell BK161.out 0).trans rfl; have hcz12_1 : w7.cell? ⟨gb161, 1, none⟩ = some (.int .i64 a1_1) := (blk_cell BK161.out 1).trans rfl; have hfz12_0 := blk_frozen BK161.out 0; have hfz12_1 := blk_frozen BK161.out 1; have hcz13_0 : w7.cell? ⟨gb162, 0, none⟩ = some (.int .i64 0) := (blk_cell BK162.out 0).trans rfl; have hcz13_1 : w7.cell? ⟨gb162, 1, none⟩ = some (.int .i64 0) := (blk_cell BK162.out 1).trans rfl; have hcz13_2 : w7.cell? ⟨gb162, 2, none⟩ = some (.int .i64 0) := (blk_cell BK162.out 2).trans rfl; have hcz13_3 : w7.cell? ⟨gb162, 3, none⟩ = some (.int .i64 0) := (blk_cell BK162.out 3).trans rfl; have hcz13_4 : w7.cell? ⟨gb162, 4, none⟩ = some (.int .i64 0) := (blk_cell BK162.out 4).trans rfl; have hcz13_5 : w7.cell? ⟨gb162, 5, none⟩ = some (.int .i32 0) := (blk_cell BK162.out 5).trans rfl; have hfz13_0 := blk_frozen BK162.out 0; have hfz13_1 := blk_frozen BK162.out 1; have hfz13_2 := blk_frozen BK162.out 2; have hfz13_3 := blk_frozen BK162.out 3; have hfz13_4 := blk_frozen BK162.out 4; have hfz13_5 := blk_frozen BK162.out 5))
  refine bodyPost_ret (results_cell_row rfl _ _ gb162 37 #[.int .i64 a0_0, .int .i64 a0_1, .int .i64 a1_0, .int .i64 a1_1, .int .i64 a2, .int .i32 a3] (0, 0) _ rfl (by (with_reducible repeat (first | refine blk_drewN ?_ _ | refine blk_drew ?_ | refine blk_alloc ?_ _)); refine blk_put (cs := #[.int .i64 a0_0, .int .i64 a0_1, .int .i64 a1_0, .int .i64 a1_1, .int .i64 a2, .int .i32 0]) ?_ 5 _ rfl; (with_reducible repeat (first | refine blk_drewN ?_ _ | refine blk_drew ?_ | refine blk_alloc ?_ _)); refine blk_put (cs := #[.int .i64 a0_0, .int .i64 a0_1, .int .i64 a1_0, .int .i64 a1_1, .int .i64 0, .int .i32 0]) ?_ 4 _ rfl; (with_reducible repeat (first | refine blk_drewN ?_ _ | refine blk_drew ?_ | refine blk_alloc ?_ _)); refine blk_put (cs := #[.int .i64 a0_0, .int .i64 a0_1, .int .i64 a1_0, .int .i64 0, .int .i64 0, .int .i32 0]) ?_ 3 _ rfl; (with_reducible repeat (first | refine blk_drewN ?_ _ | refine blk_drew ?_ | refine blk_alloc ?_ _)); refine blk_put (cs := #[.int .i64 a0_0, .int .i64 a0_1, .int .i64 0, .int .i64 0, .int .i64 0, .int .i32 0]) ?_ 2 _ rfl; (with_reducible repeat (first | refine blk_drewN ?_ _ | refine blk_drew ?_ | refine blk_alloc ?_ _)); refine blk_put (cs := #[.int .i64 a0_0, .int .i64 0, .int .i64 0, .int .i64 0, .int .i64 0, .int .i32 0]) ?_ 1 _ rfl; (with_reducible repeat (first | refine blk_drewN ?_ _ | refine blk_drew ?_ | refine blk_alloc ?_ _)); refine blk_put (cs := #[.int .i64 0, .int .i64 0, .int .i64 0, .int .i64 0, .int .i64 0, .int .i32 0]) ?_ 0 _ rfl; (with_reducible repeat (first | refine blk_drewN ?_ _ | refine blk_drew ?_ | refine blk_alloc ?_ _)); exact BK162.out) Tryd.underlying37 rfl (by kernel_rfl)) rfl ?_
  exact ⟨by first | rfl | (simp [errW_none, errW_some] <;> rfl) | (simp [*, errW_none, errW_some] <;> rfl), by repeat (first | (with_reducible first | exact HB.out | apply below_alloc | apply pw_below_drewN | apply below_drew1 | refine below_set ?_ GE160.out | refine below_set ?_ GE161.out | refine below_set ?_ GE162.out) | exact HB.out)⟩

/-! ### redpencillaw13_at: function 19 -/
def redpencillaw13_at.f (a0 : Int) (a1 : Int) : Option (Int × Int) := some (a0, a1)
set_option maxHeartbeats 8000000 in
set_option maxRecDepth 100000 in
theorem redpencillaw13_at.calls (a0 : Int) (a1 : Int) (r1 : Int) (r2 : Int) (w : World) (h : redpencillaw13_at.f a0 a1 = some (r1, r2)) :
    Calls Tryd.prog 19 #[.int .i64 a0, .int .i64 a1] w fun e w' => e = .returned (.agg #[.int .i64 r1, .int .i64 r2]) ∧ Below w.heap.size w w' := by
  have hu35 := Tryd.underlying35
  have HB := Aside0.mk (Below.refl w.heap.size w)
  have H : (some (a0, a1)) = some (r1, r2) := h
  clear h
  simp only [Option.some.injEq, Prod.mk.injEq] at H
  obtain ⟨rfl, rfl⟩ := H
  go_enter Tryd.func19, Tryd.ntmps19
  go_wp2_with (first | ((with_reducible refine gate_dst (N := 4) rfl ?_); refine box_event ?hg (N := 4) ?hd (cs := #[.int .i64 0, .int .i64 0]) (t := 35) ?hr ?_; (case hd => rfl); (case hg => rfl); (case hr => first | (go_simp; done) | (go_simp; rfl)); intro gb163 hg w3 hbox hb; have n0_ := Aside0.mk (below_step (by repeat (first | (with_reducible first | exact HB.out | apply below_alloc | apply pw_below_drewN | apply below_drew1) | exact HB.out)) hb); have n1_ := Aside0.mk (hbox); have n2_ := Aside0.mk ((by rw [hg]; exact (below_size (by repeat (first | (with_reducible first | exact HB.out | apply below_alloc | apply pw_below_drewN | apply below_drew1) | exact HB.out))) : w.heap.size ≤ gb163)); have n3_ := Aside0.mk ((by rw [hg]; exact (below_size (by repeat (first | (with_reducible first | exact HB.out | apply below_alloc | apply pw_below_drewN | apply below_drew1) | exact HB.out))) : w.heap.size ≤ gb163)); clear HB; have HB := n0_; have BK163 := n1_; have GW163 := n2_; have GE163 := n3_; clear n0_ n1_ n2_ n3_; clear hb hbox hg; have hcz4_0 : w3.cell? ⟨gb163, 0, none⟩ = some (.int .i64 0) := (blk_cell BK163.out 0).trans rfl; have hcz4_1 : w3.cell? ⟨gb163, 1, none⟩ = some (.int .i64 0) := (blk_cell BK163.out 1).trans rfl; have hfz4_0 := blk_frozen BK163.out 0; have hfz4_1 := blk_frozen BK163.out 1))
  refine bodyPost_ret (results_cell_row rfl _ _ gb163 35 #[.int .i64 a0, .int .i64 a1] (0, 0) _ rfl (by (with_reducible repeat (first | refine blk_drewN ?_ _ | refine blk_drew ?_ | refine blk_alloc ?_ _)); refine blk_put (cs := #[.int .i64 a0, .int .i64 0]) ?_ 1 _ rfl; (with_reducible repeat (first | refine blk_drewN ?_ _ | refine blk_drew ?_ | refine blk_alloc ?_ _)); refine blk_put (cs := #[.int .i64 0, .int .i64 0]) ?_ 0 _ rfl; (with_reducible repeat (first | refine blk_drewN ?_ _ | refine blk_drew ?_ | refine blk_alloc ?_ _)); exact BK163.out) Tryd.underlying35 rfl (by kernel_rfl)) rfl ?_
  exact ⟨by first | rfl | (simp [errW_none, errW_some] <;> rfl) | (simp [*, errW_none, errW_some] <;> rfl), by repeat (first | (with_reducible first | exact HB.out | apply below_alloc | apply pw_below_drewN | apply below_drew1 | refine below_set ?_ GE163.out) | exact HB.out)⟩

/-! ### redpencillaw13_nodes: function 32 -/
def redpencillaw13_nodes.f (l0 : List (S37)) : Option ((List (S37))) := some l0
set_option maxHeartbeats 8000000 in
set_option maxRecDepth 100000 in
theorem redpencillaw13_nodes.calls (P0_ : Nat → Prop) (u9000_ : Value) (l0 : List (S37)) (r : List (S37)) (w0 w : World) (hB : Below w0.heap.size w0 w) (ho0 : Kd.R k37 37 w w0.heap.size P0_ u9000_ l0) (h : redpencillaw13_nodes.f l0 = some r) :
    Calls Tryd.prog 32 #[u9000_] w fun e w' => ∃ v0_ : Value, e = .returned (v0_) ∧ Kd.R k37 37 w' w0.heap.size (fun k_ => (P0_ k_ ∨ w.heap.size ≤ k_)) v0_ r ∧ Below w0.heap.size w0 w' ∧ Kept w w' (fun k_ => P0_ k_) := by
  have HO0 := Aside0.mk (show Kd.R k37 37 w w0.heap.size (fun k_ => (P0_ k_ ∨ w.heap.size ≤ k_)) u9000_ l0 from Kd.R_mono ho0 (fun k_ hk => (.inl hk)))
  have HK := Aside0.mk (Kept.refl w (fun k_ => P0_ k_))
  have HW0 := Aside0.mk hB.size
  have HB := Aside0.mk hB
  clear hB
  have H : (some l0) = some r := h
  clear h
  obtain rfl := Option.some.inj H
  go_enter Tryd.func32, Tryd.ntmps32
  go_wp2
  go_ret
  exact ⟨_, by first | rfl | (simp [errW_none, errW_some] <;> rfl) | (simp [*, errW_none, errW_some] <;> rfl), by (with_reducible repeat (first | apply Kd.R_alloc | apply Kd.R_drewN | apply Kd.R_drew)); exact HO0.out, by repeat (first | (with_reducible first | exact HB.out | apply below_alloc | apply pw_below_drewN | apply below_drew1) | exact HB.out), by repeat (first | (with_reducible first | exact HK.out | apply Kept.alloc | apply Kept.drewN | apply Kept.drew) | exact HK.out)⟩

-- NOT PRINTED: function 8 (redpencillaw13_known)

/-! ### redpencilref04_Root: function 64 -/
def redpencilref04_Root.f (a0_0 : Int) (a0_1 : Int) : Option (Bool) := if a0_0 = 0 then (some (a0_1 == 0)) else (some false)
set_option maxHeartbeats 8000000 in
set_option maxRecDepth 100000 in
theorem redpencilref04_Root.calls (a0_0 : Int) (a0_1 : Int) (r : Bool) (w : World) (h : redpencilref04_Root.f a0_0 a0_1 = some r) :
    Calls Tryd.prog 64 #[.agg #[.int .i64 a0_0, .int .i64 a0_1]] w fun e w' => e = .returned (.bool r) ∧ Below w.heap.size w w' := by
  have hu35 := Tryd.underlying35
  have HB := Aside0.mk (Below.refl w.heap.size w)
  have H : (if a0_0 = 0 then (some (a0_1 == 0)) else (some false)) = some r := h
  clear h
  by_cases c2 : a0_0 = 0
  · rw [if_pos c2] at H
    have c2b0 : (a0_0 == 0) = true := beq_iff_eq.mpr c2
    have c2b1 : (a0_0 != 0) = false := bne_eq_false_iff_eq.mpr c2
    clear c2
    obtain rfl := Option.some.inj H
    go_enter Tryd.func64, Tryd.ntmps64
    go_wp2_with (first | ((with_reducible refine gate_dst (N := 1) rfl ?_); refine box_event ?hg (N := 1) ?hd (cs := #[.int .i64 a0_0, .int .i64 a0_1]) (t := 35) ?hr ?_; (case hd => rfl); (case hg => rfl); (case hr => first | (go_simp; done) | (go_simp; rfl)); intro gb300 hg w3 hbox hb; have n0_ := Aside0.mk (below_step (by repeat (first | (with_reducible first | exact HB.out | apply below_alloc | apply pw_below_drewN | apply below_drew1) | exact HB.out)) hb); have n1_ := Aside0.mk (hbox); have n2_ := Aside0.mk ((by rw [hg]; exact (below_size (by repeat (first | (with_reducible first | exact HB.out | apply below_alloc | apply pw_below_drewN | apply below_drew1) | exact HB.out))) : w.heap.size ≤ gb300)); have n3_ := Aside0.mk ((by rw [hg]; exact (below_size (by repeat (first | (with_reducible first | exact HB.out | apply below_alloc | apply pw_below_drewN | apply below_drew1) | exact HB.out))) : w.heap.size ≤ gb300)); clear HB; have HB := n0_; have BK300 := n1_; have GW300 := n2_; have GE300 := n3_; clear n0_ n1_ n2_ n3_; clear hb hbox hg; have hcz4_0 : w3.cell? ⟨gb300, 0, none⟩ = some (.int .i64 a0_0) := (blk_cell BK300.out 0).trans rfl; have hcz4_1 : w3.cell? ⟨gb300, 1, none⟩ = some (.int .i64 a0_1) := (blk_cell BK300.out 1).trans rfl; have hfz4_0 := blk_frozen BK300.out 0; have hfz4_1 := blk_frozen BK300.out 1))
    go_ret
    exact ⟨by first | rfl | (simp [errW_none, errW_some] <;> rfl) | (simp [*, errW_none, errW_some] <;> rfl), by repeat (first | (with_reducible first | exact HB.out | apply below_alloc | apply pw_below_drewN | apply below_drew1 | refine below_set ?_ GE300.out) | exact HB.out)⟩
  · rw [if_neg c2] at H
    have c2b0 : (a0_0 == 0) = false := beq_eq_false_iff_ne.mpr c2
    have c2b1 : (a0_0 != 0) = true := bne_iff_ne.mpr c2
    obtain rfl := Option.some.inj H
    go_enter Tryd.func64, Tryd.ntmps64
    go_wp2_with (first | ((with_reducible refine gate_dst (N := 1) rfl ?_); refine box_event ?hg (N := 1) ?hd (cs := #[.int .i64 a0_0, .int .i64 a0_1]) (t := 35) ?hr ?_; (case hd => rfl); (case hg => rfl); (case hr => first | (go_simp; done) | (go_simp; rfl)); intro gb300 hg w5 hbox hb; have n0_ := Aside0.mk (below_step (by repeat (first | (with_reducible first | exact HB.out | apply below_alloc | apply pw_below_drewN | apply below_drew1) | exact HB.out)) hb); have n1_ := Aside0.mk (hbox); have n2_ := Aside0.mk ((by rw [hg]; exact (below_size (by repeat (first | (with_reducible first | exact HB.out | apply below_alloc | apply pw_below_drewN | apply below_drew1) | exact HB.out))) : w.heap.size ≤ gb300)); have n3_ := Aside0.mk ((by rw [hg]; exact (below_size (by repeat (first | (with_reducible first | exact HB.out | apply below_alloc | apply pw_below_drewN | apply below_drew1) | exact HB.out))) : w.heap.size ≤ gb300)); clear HB; have HB := n0_; have BK300 := n1_; have GW300 := n2_; have GE300 := n3_; clear n0_ n1_ n2_ n3_; clear hb hbox hg; have hcz6_0 : w5.cell? ⟨gb300, 0, none⟩ = some (.int .i64 a0_0) := (blk_cell BK300.out 0).trans rfl; have hcz6_1 : w5.cell? ⟨gb300, 1, none⟩ = some (.int .i64 a0_1) := (blk_cell BK300.out 1).trans rfl; have hfz6_0 := blk_frozen BK300.out 0; have hfz6_1 := blk_frozen BK300.out 1))
    go_ret
    exact ⟨by first | rfl | (simp [errW_none, errW_some] <;> rfl) | (simp [*, errW_none, errW_some] <;> rfl), by repeat (first | (with_reducible first | exact HB.out | apply below_alloc | apply pw_below_drewN | apply below_drew1 | refine below_set ?_ GE300.out) | exact HB.out)⟩

/-! ### redpencilref04_Valid: function 66 -/
def redpencilref04_Valid.f (a0_0 : Int) (a0_1 : Int) : Option (Bool) := if a0_0 > 0 then (if a0_0 ≤ 64 then (if a0_1 > 0 then (some (decide (a0_1 ≤ 4294967295))) else (some false)) else (some false)) else (some false)
set_option maxHeartbeats 8000000 in
set_option maxRecDepth 100000 in
theorem redpencilref04_Valid.calls (a0_0 : Int) (a0_1 : Int) (r : Bool) (w : World) (h : redpencilref04_Valid.f a0_0 a0_1 = some r) :
    Calls Tryd.prog 66 #[.agg #[.int .i64 a0_0, .int .i64 a0_1]] w fun e w' => e = .returned (.bool r) ∧ Below w.heap.size w w' := by
  have hu35 := Tryd.underlying35
  have HB := Aside0.mk (Below.refl w.heap.size w)
  have H : (if a0_0 > 0 then (if a0_0 ≤ 64 then (if a0_1 > 0 then (some (decide (a0_1 ≤ 4294967295))) else (some false)) else (some false)) else (some false)) = some r := h
  clear h
  by_cases c2 : a0_0 > 0
  · rw [if_pos c2] at H
    have c2b0 : decide (0 < a0_0) = true := decide_eq_true c2
    clear c2
    by_cases c3 : a0_0 ≤ 64
    · rw [if_pos c3] at H
      have c3b0 : decide (a0_0 ≤ 64) = true := decide_eq_true c3
      clear c3
      by_cases c4 : a0_1 > 0
      · rw [if_pos c4] at H
        have c4b0 : decide (0 < a0_1) = true := decide_eq_true c4
        clear c4
        obtain rfl := Option.some.inj H
        go_enter Tryd.func66, Tryd.ntmps66
        go_wp2_with (first | ((with_reducible refine gate_dst (N := 1) rfl ?_); refine box_event ?hg (N := 1) ?hd (cs := #[.int .i64 a0_0, .int .i64 a0_1]) (t := 35) ?hr ?_; (case hd => rfl); (case hg => rfl); (case hr => first | (go_simp; done) | (go_simp; rfl)); intro gb301 hg w5 hbox hb; have n0_ := Aside0.mk (below_step (by repeat (first | (with_reducible first | exact HB.out | apply below_alloc | apply pw_below_drewN | apply below_drew1) | exact HB.out)) hb); have n1_ := Aside0.mk (hbox); have n2_ := Aside0.mk ((by rw [hg]; exact (below_size (by repeat (first | (with_reducible first | exact HB.out | apply below_alloc | apply pw_below_drewN | apply below_drew1) | exact HB.out))) : w.heap.size ≤ gb301)); have n3_ := Aside0.mk ((by rw [hg]; exact (below_size (by repeat (first | (with_reducible first | exact HB.out | apply below_alloc | apply pw_below_drewN | apply below_drew1) | exact HB.out))) : w.heap.size ≤ gb301)); clear HB; have HB := n0_; have BK301 := n1_; have GW301 := n2_; have GE301 := n3_; clear n0_ n1_ n2_ n3_; clear hb hbox hg; have hcz6_0 : w5.cell? ⟨gb301, 0, none⟩ = some (.int .i64 a0_0) := (blk_cell BK301.out 0).trans rfl; have hcz6_1 : w5.cell? ⟨gb301, 1, none⟩ = some (.int .i64 a0_1) := (blk_cell BK301.out 1).trans rfl; have hfz6_0 := blk_frozen BK301.out 0; have hfz6_1 := blk_frozen BK301.out 1))
        go_ret
        exact ⟨by first | rfl | (simp [errW_none, errW_some] <;> rfl) | (simp [*, errW_none, errW_some] <;> rfl), by repeat (first | (with_reducible first | exact HB.out | apply below_alloc | apply pw_below_drewN | apply below_drew1 | refine below_set ?_ GE301.out) | exact HB.out)⟩
      · rw [if_neg c4] at H
        have c4b0 : decide (0 < a0_1) = false := decide_eq_false c4
        clear c4
        obtain rfl := Option.some.inj H
        go_enter Tryd.func66, Tryd.ntmps66
        go_wp2_with (first | ((with_reducible refine gate_dst (N := 1) rfl ?_); refine box_event ?hg (N := 1) ?hd (cs := #[.int .i64 a0_0, .int .i64 a0_1]) (t := 35) ?hr ?_; (case hd => rfl); (case hg => rfl); (case hr => first | (go_simp; done) | (go_simp; rfl)); intro gb301 hg w7 hbox hb; have n0_ := Aside0.mk (below_step (by repeat (first | (with_reducible first | exact HB.out | apply below_alloc | apply pw_below_drewN | apply below_drew1) | exact HB.out)) hb); have n1_ := Aside0.mk (hbox); have n2_ := Aside0.mk ((by rw [hg]; exact (below_size (by repeat (first | (with_reducible first | exact HB.out | apply below_alloc | apply pw_below_drewN | apply below_drew1) | exact HB.out))) : w.heap.size ≤ gb301)); have n3_ := Aside0.mk ((by rw [hg]; exact (below_size (by repeat (first | (with_reducible first | exact HB.out | apply below_alloc | apply pw_below_drewN | apply below_drew1) | exact HB.out))) : w.heap.size ≤ gb301)); clear HB; have HB := n0_; have BK301 := n1_; have GW301 := n2_; have GE301 := n3_; clear n0_ n1_ n2_ n3_; clear hb hbox hg; have hcz8_0 : w7.cell? ⟨gb301, 0, none⟩ = some (.int .i64 a0_0) := (blk_cell BK301.out 0).trans rfl; have hcz8_1 : w7.cell? ⟨gb301, 1, none⟩ = some (.int .i64 a0_1) := (blk_cell BK301.out 1).trans rfl; have hfz8_0 := blk_frozen BK301.out 0; have hfz8_1 := blk_frozen BK301.out 1))
        go_ret
        exact ⟨by first | rfl | (simp [errW_none, errW_some] <;> rfl) | (simp [*, errW_none, errW_some] <;> rfl), by repeat (first | (with_reducible first | exact HB.out | apply below_alloc | apply pw_below_drewN | apply below_drew1 | refine below_set ?_ GE301.out) | exact HB.out)⟩
    · rw [if_neg c3] at H
      have c3b0 : decide (a0_0 ≤ 64) = false := decide_eq_false c3
      clear c3
      obtain rfl := Option.some.inj H
      go_enter Tryd.func66, Tryd.ntmps66
      go_wp2_with (first | ((with_reducible refine gate_dst (N := 1) rfl ?_); refine box_event ?hg (N := 1) ?hd (cs := #[.int .i64 a0_0, .int .i64 a0_1]) (t := 35) ?hr ?_; (case hd => rfl); (case hg => rfl); (case hr => first | (go_simp; done) | (go_simp; rfl)); intro gb301 hg w9 hbox hb; have n0_ := Aside0.mk (below_step (by repeat (first | (with_reducible first | exact HB.out | apply below_alloc | apply pw_below_drewN | apply below_drew1) | exact HB.out)) hb); have n1_ := Aside0.mk (hbox); have n2_ := Aside0.mk ((by rw [hg]; exact (below_size (by repeat (first | (with_reducible first | exact HB.out | apply below_alloc | apply pw_below_drewN | apply below_drew1) | exact HB.out))) : w.heap.size ≤ gb301)); have n3_ := Aside0.mk ((by rw [hg]; exact (below_size (by repeat (first | (with_reducible first | exact HB.out | apply below_alloc | apply pw_below_drewN | apply below_drew1) | exact HB.out))) : w.heap.size ≤ gb301)); clear HB; have HB := n0_; have BK301 := n1_; have GW301 := n2_; have GE301 := n3_; clear n0_ n1_ n2_ n3_; clear hb hbox hg; have hcz10_0 : w9.cell? ⟨gb301, 0, none⟩ = some (.int .i64 a0_0) := (blk_cell BK301.out 0).trans rfl; have hcz10_1 : w9.cell? ⟨gb301, 1, none⟩ = some (.int .i64 a0_1) := (blk_cell BK301.out 1).trans rfl; have hfz10_0 := blk_frozen BK301.out 0; have hfz10_1 := blk_frozen BK301.out 1))
      go_ret
      exact ⟨by first | rfl | (simp [errW_none, errW_some] <;> rfl) | (simp [*, errW_none, errW_some] <;> rfl), by repeat (first | (with_reducible first | exact HB.out | apply below_alloc | apply pw_below_drewN | apply below_drew1 | refine below_set ?_ GE301.out) | exact HB.out)⟩
  · rw [if_neg c2] at H
    have c2b0 : decide (0 < a0_0) = false := decide_eq_false c2
    clear c2
    obtain rfl := Option.some.inj H
    go_enter Tryd.func66, Tryd.ntmps66
    go_wp2_with (first | ((with_reducible refine gate_dst (N := 1) rfl ?_); refine box_event ?hg (N := 1) ?hd (cs := #[.int .i64 a0_0, .int .i64 a0_1]) (t := 35) ?hr ?_; (case hd => rfl); (case hg => rfl); (case hr => first | (go_simp; done) | (go_simp; rfl)); intro gb301 hg w11 hbox hb; have n0_ := Aside0.mk (below_step (by repeat (first | (with_reducible first | exact HB.out | apply below_alloc | apply pw_below_drewN | apply below_drew1) | exact HB.out)) hb); have n1_ := Aside0.mk (hbox); have n2_ := Aside0.mk ((by rw [hg]; exact (below_size (by repeat (first | (with_reducible first | exact HB.out | apply below_alloc | apply pw_below_drewN | apply below_drew1) | exact HB.out))) : w.heap.size ≤ gb301)); have n3_ := Aside0.mk ((by rw [hg]; exact (below_size (by repeat (first | (with_reducible first | exact HB.out | apply below_alloc | apply pw_below_drewN | apply below_drew1) | exact HB.out))) : w.heap.size ≤ gb301)); clear HB; have HB := n0_; have BK301 := n1_; have GW301 := n2_; have GE301 := n3_; clear n0_ n1_ n2_ n3_; clear hb hbox hg; have hcz12_0 : w11.cell? ⟨gb301, 0, none⟩ = some (.int .i64 a0_0) := (blk_cell BK301.out 0).trans rfl; have hcz12_1 : w11.cell? ⟨gb301, 1, none⟩ = some (.int .i64 a0_1) := (blk_cell BK301.out 1).trans rfl; have hfz12_0 := blk_frozen BK301.out 0; have hfz12_1 := blk_frozen BK301.out 1))
    go_ret
    exact ⟨by first | rfl | (simp [errW_none, errW_some] <;> rfl) | (simp [*, errW_none, errW_some] <;> rfl), by repeat (first | (with_reducible first | exact HB.out | apply below_alloc | apply pw_below_drewN | apply below_drew1 | refine below_set ?_ GE301.out) | exact HB.out)⟩

end Go.Proofs.YtjlpaagnajmogaaDoor.PForm
