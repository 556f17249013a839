/-
  As many changes as can be undone, and more. Part 4 of 10.
-/
import Derived.Test.YtefejajofmpjdaaGreatDC
import Derived.Shelf.SlSortCmp.WholeK
import Derived.Shelf.SlGeneric
import Derived.Ground.SlsfProg
import Derived.Test.YtefejajofmpjdaaGreatProg
section
namespace Go.Proofs.YtefejajofmpjdaaGreat.PWalk
open Go.RowKit Go.Proofs.YtefejajofmpjdaaGreatW.PrintWords Go.Proofs.YtefejajofmpjdaaGreatW.PrintLast Go.Proofs.YtefejajofmpjdaaGreatW.PrintMore
set_option linter.unusedVariables false
set_option linter.unusedSimpArgs false
open Go.Shelf
attribute [local go_sem] Oper.semAt_some
section
theorem run_copy_rowK {P : Program} (w : World) (dT sT ty elem : TypeId) (k g o dLen dCap : Nat) (a : Addr) (sLen sCap : Nat) (cur : Array Value) (t : TypeId) (cs : List Value)
  (hu : P.underlying dT = some (.slice elem)) (hs : (P.info? elem).map (·.size) = some k)
  (hg : w.heap[g]? = some (.cells cur t (0, 0))) (hn : cs.length = Nat.min sLen dLen * k)
  (hsrc : ∀ j v, cs[j]? = some v → w.cell? (a.add j) = some v) (hfit : o + cs.length ≤ cur.size) (h1 : ∀ v ∈ cs, v.oneCell' = true) :
  (Builtin.copy_ #[dT, sT] ty #[.slice (some ⟨g, o, none⟩) dLen dCap, .slice (some a) sLen sCap]).run P w =
   .ok (goInt (Nat.min sLen dLen)) (w.setRow g (cur.toList.take o ++ cs ++ cur.toList.drop (o + cs.length)).toArray) := by
 have hl := run_loadCells_list (P := P) w a cs hsrc
 have hst := run_storeCells_at P g o t cs 0 cur w hg (by simpa using hfit) h1
 cases hq : P.info? elem with
 | none => simp [hq] at hs
 | some i =>
  have hi : i.size = k := by simpa [hq] using hs
  simp [Builtin.copy_, run_underlying hu, Builtin.lenOf, Builtin.firstCells, sizeOf, typeInfo, hq, hi, ← hn, hl, hst]
abbrev entCells (k : Dot) (u : Value) : List Value := [.int .i64 k.f0, .int .i64 k.f1, u]
theorem infoE : (Tryz.prog.info? 162).map (fun i => (i.zero, i.size, i.bytes)) = some (some (.agg #[(.int .i64 0), (.int .i64 0), (.slice none 0 0)]), 3, 40) := by kernel_rfl
theorem entCells_at {w : World} {g : Nat} {k : Dot} {u : Value} (h : w.heap[g]? = some (.cells #[.int .i64 k.f0, .int .i64 k.f1, u] 162 (0, 0))) (j : Nat) (v : Value) (hj : (entCells k u)[j]? = some v) : w.cell? ((⟨g, 0, none⟩ : Addr).add j) = some v := by
 rw [show (⟨g, 0, none⟩ : Addr).add j = ⟨g, j, none⟩ from by unfold Addr.add; split <;> simp_all]
 rw [za4 h, ← Array.getElem?_toList]
 exact hj
theorem entCells_one {k : Dot} {u : Value} (h : u.oneCell' = true) : ∀ v ∈ entCells k u, v.oneCell' = true := by
 intro v hv
 simp at hv
 rcases hv with rfl | rfl | rfl
 ·
  rfl
 ·
  rfl
 ·
  exact h
set_option maxHeartbeats 1000000 in
set_option maxRecDepth 100000 in
theorem insert_end (base : Nat) (A : Option Addr) (n cap : Nat) (cs : List Value) (k : Dot) (u : Value) (gE : Nat) (w : World) (ho : w.ownsRow base 162 3 (.slice A n cap) n cs)
  (hE : w.heap[gE]? = some (.cells #[.int .i64 k.f0, .int .i64 k.f1, u] 162 (0, 0))) (hu1 : u.oneCell' = true) (hn : n ≤ 1000000) (hb : base ≤ w.heap.size) :
  Calls Tryz.prog 104 #[.slice A n cap, .int .i64 n, .slice (some ⟨gE, 0, none⟩) 1 1] w fun e w' => ∃ v', e = .returned v' ∧ w'.ownsRow base 162 3 v' (n + 1) (cs ++ entCells k u) ∧ w.grownBy w' (Value.slice A n cap).ownBlock := by
 obtain ⟨i0, hi, hz0, hz1, hz2⟩ := info_parts infoE
 have HO := za0.mk ho
 have HE := za0.mk (entCells_at hE)
 have H1 := za0.mk (entCells_one (k := k) hu1)
 have hz := Tryz.zeroValue162
 have HN := za0.mk hn
 clear hE hu1
 have hcap : n ≤ cap := by
  rcases ho.2 with ⟨h, _⟩ | ⟨g, c, cur, h, _, _, hl, _⟩
  ·
   cases h; exact Nat.le_refl _
  ·
   cases h; exact hl
 clear ho
 cases A with
 | none =>
  go_enter Tryz.func104, Tryz.ntmps104
  go_wp2_with (at_builtin; go_loud (refine wpList_append_own _ rfl (.tmp 23) (.tmp 24) 157 rfl base 162 i0 _ 3 40 Tryz.underlying157 hi hz0 hz1 hz2 rfl (by decide) _ n cs rfl HO.out ⟨gE, 0, none⟩ 1 1 (entCells k u) rfl rfl HE.out H1.out (by unfold maxLen; have := HN.out; omega) (by have := HN.out; omega) hb ?_); intro v' w' ho2 hg2 hn2)
  go_ret
  exact ⟨_, rfl, ho2, hg2⟩
 | some ad =>
  go_enter Tryz.func104, Tryz.ntmps104
  go_wp2_with (at_builtin; go_loud (refine wpList_append_own _ rfl (.tmp 23) (.tmp 24) 157 rfl base 162 i0 _ 3 40 Tryz.underlying157 hi hz0 hz1 hz2 rfl (by decide) _ n cs rfl HO.out ⟨gE, 0, none⟩ 1 1 (entCells k u) rfl rfl HE.out H1.out (by unfold maxLen; have := HN.out; omega) (by have := HN.out; omega) hb ?_); intro v' w' ho2 hg2 hn2)
  all_goals
   go_ret
   exact ⟨_, rfl, ho2, hg2⟩
section
variable {P : Program} {ops : Array Oper} {rest : List Oper} {o : Oper} {a : Act} {Q : Exit → Act → World → Prop}
theorem wp_copy_eq {K : Act → World → Prop} (d s : Operand) (t : TypeId) (ho : o.op = .call { callee := .builtin .copy, args := #[d, s], argTypes := #[t, t] }) {v1 v2 v' : Value} {w w' : World}
  (hd : a.eval d = v1) (hs : a.eval s = v2) (hrun : (Builtin.copy_ #[t, t] o.type #[v1, v2]).run P w = .ok v' w') (h : K (a.put o.dst v') w') : o.wp P a w K Q := by
 unfold Oper.wp
 simp [execOp, ho, resolve, invoke, builtin, hd, hs, hrun, Result.andThen]
 exact h
theorem wpList_append_eq2 (hgd : o.guard = none) (s x : Operand) (t t' : TypeId) (ho : o.op = .call { callee := .builtin .append, args := #[s, x], argTypes := #[t, t'] }) {v1 v2 v' : Value} {w w' : World}
  (hs : a.eval s = v1) (hx : a.eval x = v2) (hrun : (Builtin.append_ #[t, t'] o.type #[v1, v2]).run P w = .ok v' w') (h : wpList P ops Q rest (a.put o.dst v') w') : wpList P ops Q (o :: rest) a w := by
 refine wpList_plain hgd fun K hK => ?_
 unfold Oper.wp
 simp [execOp, ho, resolve, invoke, builtin, hs, hx, hrun, Result.andThen]
 exact hK _ _ h
end
theorem add_lit (g o j : Nat) : (⟨g, o, none⟩ : Addr).add j = ⟨g, o + j, none⟩ := by unfold Addr.add; split <;> simp_all
def shiftInv (w W1 : World) (g gE n cap i j : Nat) (z10 z11 z12 z13 z14 z15 z16 z17 z18 z19 z20 z21 z22 z23 z24 z25 z26 z27 z28 z29 z30 z31 z32 z33 z34 z35 z36 z37 z38 z39 z40 z41 z42 z43 z44 z45 z46 z47 z48 z49 z50 z51 z52 z53 z54 z55 z56 z57 z58 z59 z60 z61 z62 z63 z64 z65 z66 z67 z68 : Value) (L : Array Bool) (ac : Act) (V : World) : Prop := ∃ (l0 l1 l2 l3 l4 l5 l6 l7 l8 : Bool), L = #[l0, l1, l2, l3, l4, l5, l6, l7, l8] ∧ ac = { tmps := #[.slice (some ⟨g, 0, none⟩) (n + 1) cap, .int .i64 i, .slice (some ⟨gE, 0, none⟩) 1 1, undef, undef, undef, .slice none 0 0, .int .i64 1, .int .i64 n, undef, z10, z11, z12, z13, z14, z15, z16, z17, z18, z19, z20, z21, z22, z23, z24, z25, z26, z27, z28, z29, z30, z31, z32, z33, z34, z35, z36, z37, z38, z39, z40, z41, z42, z43, z44, z45, z46, z47, z48, z49, z50, z51, z52, z53, z54, z55, z56, z57, z58, z59, z60, z61, z62, z63, z64, z65, z66, z67, z68, sel l0 (.slice (some ⟨g, 0, none⟩) (n + 1) cap), sel l1 (.int .i64 i), sel l2 (.int .i64 1), sel l3 (.int .i64 j), sel l4 (.slice (some ⟨g, j * 3, none⟩) (n + 1 - j) (cap - j)), sel l5 (.slice (some ⟨g, 0, none⟩) (n + 1) cap), sel l6 (.int .i64 i), sel l7 (.slice (some ⟨g, i * 3, none⟩) (n + 1 - i) (cap - i)), sel l8 (goInt ((n - i : Nat) : Int)), undef, undef, undef, undef, undef, undef, undef, undef, undef, undef, undef, undef, undef, undef, undef, undef, undef], defers := [] } ∧ za0 ((l8 = true → V = W1) ∧ (l8 = false → V = w.drew))
set_option maxHeartbeats 1000000 in
set_option maxRecDepth 100000 in
theorem insert_shift (base g n cap i : Nat) (cs : List Value) (k : Dot) (u : Value) (gE : Nat) (w : World) (ho : w.ownsRow base 162 3 (.slice (some ⟨g, 0, none⟩) n cap) n cs)
  (hE : w.heap[gE]? = some (.cells #[.int .i64 k.f0, .int .i64 k.f1, u] 162 (0, 0))) (hne : gE ≠ g) (hu1 : u.oneCell' = true) (hcs1 : ∀ v ∈ cs, v.oneCell' = true) (hn : n ≤ 1000000) (hi : i < n) (hroom : n + 1 ≤ cap) :
  Calls Tryz.prog 104 #[.slice (some ⟨g, 0, none⟩) n cap, .int .i64 i, .slice (some ⟨gE, 0, none⟩) 1 1] w fun e w' => ∃ v', e = .returned v' ∧ w'.ownsRow base 162 3 v' (n + 1) (cs.take (i * 3) ++ entCells k u ++ cs.drop (i * 3)) ∧ w.grownBy w' (some g) := by
 obtain ⟨hcl, ho⟩ := ho
 rcases ho with ⟨h, _⟩ | ⟨g', cap', cur, he, hbg, hcur, hle, hmx, hsz, htk⟩
 ·
  cases h
 cases he
 have hsize : (Tryz.prog.info? 162).map (·.size) = some 3 := by
  obtain ⟨i0, hi0, _, h1, _⟩ := info_parts infoE
  rw [hi0]; simp [h1]
 have hshE : w.shape? gE = some (162, 3) := by unfold World.shape?; rw [hE]; rfl
 have hshG : w.shape? g = some (162, cur.size) := by unfold World.shape?; rw [hcur]
 have hfE : ∀ j, w.frozen? ⟨gE, j, none⟩ = false := fun j => za9 hE j
 have hov : ∀ off lb cb, (callFunc 110 #[.slice (some ⟨gE, 0, none⟩) 1 1, .slice (some ⟨g, off, none⟩) lb cb]).run Tryz.prog w = .ok (.value (.bool false)) w := fun off lb cb => by
  rw [run_callFunc_extern Tryz.func110 (by kernel_rfl) (by kernel_rfl) (by kernel_rfl) (e := Extern.SlicesOverlaps.overlaps #[157, 157] #[4]) (by kernel_rfl),
   Lib.run_overlaps_apart w 157 4 162 Tryz.underlying157 3 Tryz.sizeOf162 ⟨gE, 0, none⟩ ⟨g, off, none⟩ 1 1 lb cb hne 162 162 3 cur.size hshE hshG (by omega) (hfE 0) (hfE 3)]
  rfl
 have hcell : ∀ j v, cs[j]? = some v → w.cell? ⟨g, j, none⟩ = some v := fun j v hj => by
  rw [za4 hcur, ← Array.getElem?_toList]
  rw [← htk, List.getElem?_take] at hj
  split at hj
  ·
   exact hj
  ·
   cases hj
 have hcul : cur.toList.length = cap * 3 := by rw [Array.length_toList]; exact hsz
 have hdl : (cs.drop (i * 3)).length = (n - i) * 3 := by rw [List.length_drop, hcl]; omega
 have hdl2 : (cs.take (i * 3)).length = i * 3 := by rw [List.length_take, hcl]; omega
 obtain ⟨j, hj⟩ : ∃ j, i + 1 = j := ⟨_, rfl⟩
 -- the first copy: what stands from i on goes one place up
 have hcp1 := run_copy_rowK (P := Tryz.prog) w.drew 157 157 3 162 3 g (j * 3) (n + 1 - j) (cap - j) ⟨g, i * 3, none⟩ (n + 1 - i) (cap - i) cur 162 (cs.drop (i * 3)) Tryz.underlying157 hsize hcur
  (by rw [hdl]; congr 1; simp only [Nat.min_def]; split <;> omega)
  (fun j v hj => by rw [add_lit]; exact hcell _ v (by rwa [List.getElem?_drop] at hj))
  (by
   rw [hdl, hsz]; exact (show j * 3 + (n - i) * 3 ≤ cap * 3 by omega)) (fun v hv => hcs1 v (List.mem_of_mem_drop hv))
 have hmin1 : Nat.min (n + 1 - i) (n + 1 - j) = n - i := by simp only [Nat.min_def]; split <;> omega
 rw [hmin1] at hcp1
 obtain ⟨cur1, hc1⟩ : ∃ cur1, (cur.toList.take (j * 3) ++ cs.drop (i * 3) ++ cur.toList.drop (j * 3 + (cs.drop (i * 3)).length)).toArray = cur1 := ⟨_, rfl⟩
 rw [hc1] at hcp1
 have hcl1 : cur1.toList.length = cap * 3 := by
  rw [← hc1]
  simp only [List.length_append, List.length_take, List.length_drop, hcul, hcl]
  omega
 have h1a : cur1.toList.take (i * 3) = cs.take (i * 3) := by
  rw [← hc1, ← htk]
  simp only []
  rw [List.append_assoc, List.take_append_of_le_length (by rw [List.length_take, hcul]; omega), List.take_take, List.take_take]
  congr 1; omega
 have h1b : (cur1.toList.drop (i * 3 + 3)).take ((n - i) * 3) = cs.drop (i * 3) := by
  rw [← hc1]
  simp only []
  rw [List.append_assoc, List.drop_append_of_le_length (by rw [List.length_take, hcul]; omega), List.drop_of_length_le (by rw [List.length_take, hcul]; omega), List.nil_append, List.take_left' hdl]
 obtain ⟨W1, hW1⟩ : ∃ W1, w.drew.setRow g cur1 = W1 := ⟨_, rfl⟩
 rw [hW1] at hcp1
 have hcur1 : W1.heap[g]? = some (.cells cur1 162 (0, 0)) := by rw [← hW1]; exact setRow_at (show w.drew.heap[g]? = _ from hcur) cur1
 have hE1 : W1.heap[gE]? = some (.cells #[.int .i64 k.f0, .int .i64 k.f1, u] 162 (0, 0)) := by rw [← hW1]; exact (setRow_other w.drew g gE cur1 hne).trans hE
 have hg1 : w.grownBy W1 (some g) := by
  rw [← hW1]
  have := setRow_grown w.drew g cur1
  exact ⟨this.os, this.tape, this.output, this.size, this.block⟩
 -- the second one: the entry
 have hcp2 := run_copy_rowK (P := Tryz.prog) W1 157 157 3 162 3 g (i * 3) (n + 1 - i) (cap - i) ⟨gE, 0, none⟩ 1 1 cur1 162 (entCells k u) Tryz.underlying157 hsize hcur1
  (by show 3 = _; simp only [Nat.min_def]; split <;> omega) (fun j v hj => entCells_at hE1 j v hj) (by rw [← Array.length_toList, hcl1]; show i * 3 + 3 ≤ _; omega) (entCells_one hu1)
 have hmin2 : Nat.min 1 (n + 1 - i) = 1 := by simp only [Nat.min_def]; split <;> omega
 rw [hmin2] at hcp2
 obtain ⟨cur2, hc2⟩ : ∃ cur2, (cur1.toList.take (i * 3) ++ entCells k u ++ cur1.toList.drop (i * 3 + (entCells k u).length)).toArray = cur2 := ⟨_, rfl⟩
 rw [hc2] at hcp2
 obtain ⟨W2, hW2⟩ : ∃ W2, W1.setRow g cur2 = W2 := ⟨_, rfl⟩
 rw [hW2] at hcp2
 have HEND : za0 (W2.ownsRow base 162 3 (.slice (some ⟨g, 0, none⟩) (n + 1) cap) (n + 1) (cs.take (i * 3) ++ entCells k u ++ cs.drop (i * 3)) ∧ w.grownBy W2 (some g)) := ⟨by
  refine ⟨⟨?_, .inr ⟨g, cap, cur2, rfl, hbg, by rw [← hW2]; exact setRow_at hcur1 cur2, hroom, hmx, ?_, ?_⟩⟩, ?_⟩
  ·
   simp only [List.length_append, hdl, hdl2, List.length_cons, List.length_nil]; omega
  ·
   rw [← Array.length_toList, ← hc2]
   simp only [List.length_append, List.length_take, List.length_drop, List.length_cons, List.length_nil, hcl1]; omega
  ·
   rw [← hc2, ← h1a, ← h1b]
   simp only []
   rw [show (n + 1) * 3 = (i * 3 + 3) + (n - i) * 3 by omega]
   have hl : (cur1.toList.take (i * 3) ++ entCells k u).length = i * 3 + 3 := by simp only [List.length_append, List.length_take, List.length_cons, List.length_nil, hcl1]; omega
   rw [show i * 3 + (entCells k u).length = i * 3 + 3 from rfl, ← hl, List.take_length_add_append]
  ·
   rw [← hW2]
   have h2 := setRow_grown W1 g cur2
   exact ⟨h2.os.trans hg1.os, h2.tape.trans hg1.tape, h2.output.trans hg1.output, Nat.le_trans hg1.size h2.size, fun q hq hqn => (h2.block q (Nat.lt_of_lt_of_le hq hg1.size) hqn).trans (hg1.block q hq hqn)⟩⟩
 have HCP1 := za0.mk hcp1
 have HCP2 := za0.mk hcp2
 clear hcp1 hcp2 hW2 hc2 hg1 hE1 hcur1 hW1 h1a h1b hcl1 hc1 hcul hdl hdl2 hcell hfE hshE hshG hsize hcur htk hsz hcl hmin1 hmin2
 have hz1 : ((i : Int) == (n : Int)) = false := beq_eq_false_iff_ne.2 (by omega)
 have hz2 : decide ((n : Int) + 1 > (cap : Int)) = false := decide_eq_false (by omega)
 have hz3 : decide ((cap : Int) < (n : Int) + 1) = false := decide_eq_false (by omega)
 obtain ⟨rs, HRS⟩ : ∃ rs, za0 (cs.take (i * 3) ++ entCells k u ++ cs.drop (i * 3) = rs) := ⟨_, ⟨rfl⟩⟩
 rw [HRS.out] at HEND ⊢
 have hij : (i : Int) + 1 = (j : Int) := by omega
 have hjn : j ≤ n + 1 := by omega
 have hjc : ¬ (cap = j) := by omega
 have hic : ¬ (cap = i) := by omega
 have hin : i ≤ n + 1 := by omega
 have hjn2 : (j : Int) ≤ (n : Int) + 1 := by omega
 have hin2 : (i : Int) ≤ (n : Int) + 1 := by omega
 have hjn3 : j ≤ n := by omega
 clear hj
 go_enter Tryz.func104, Tryz.ntmps104
 go_wp2_with (simp only [hov])
 refine AnyOrder.wp_region (by kernel_rfl) (shiftInv w W1 g gE n cap i j _ _ _ _ _ _ _ _ _ _ _ _ _ _ _ _ _ _ _ _ _ _ _ _ _ _ _ _ _ _ _ _ _ _ _ _ _ _ _ _ _ _ _ _ _ _ _ _ _ _ _ _ _ _ _ _ _ _ _) ⟨false, false, false, false, false, false, false, false, false, rfl, rfl, ⟨⟨fun h => (by cases h), fun _ => rfl⟩⟩⟩ ?step ?last
 case step =>
  rintro L ac V i ⟨l0, l1, l2, l3, l4, l5, l6, l7, l8, rfl, rfl, HF⟩ hi K hK
  rcases AnyOrder.up hi [0, 1, 2, 3, 4, 5, 6, 7, 8] rfl with rfl | rfl | rfl | rfl | rfl | rfl | rfl | rfl | rfl
  all_goals
   replace hi := AnyOrder.first hi rfl
   repeat (obtain ⟨ha, hi⟩ := hi; first | obtain rfl := ha | clear ha)
   clear hi
   try simp only [sel_true, selv_true] at hK ⊢
  iterate 8
   ·
    refine AnyOrder.wpOp_go rfl (by rfl) ?_
    go_wp2_with fail
    exact ⟨_, _, _, _, _, _, _, _, _, rfl, rfl, HF⟩
  ·
   obtain rfl := HF.out.2 rfl
   refine AnyOrder.wpOp_go rfl (by rfl) ?_
   refine wp_copy_eq (.tmp 73) (.tmp 76) 157 rfl rfl rfl (HCP1.out) ?_
   exact hK _ _ ⟨_, _, _, _, _, _, _, _, _, rfl, rfl, ⟨⟨fun _ => rfl, fun h => (by cases h)⟩⟩⟩
 case last =>
  rintro L ac V ⟨l0, l1, l2, l3, l4, l5, l6, l7, l8, rfl, rfl, HF⟩ hr
  obtain ⟨rfl, rfl, rfl, rfl, rfl, rfl, rfl, rfl, rfl, -⟩ := AnyOrder.alls rfl (by kernel_rfl) hr
  clear hr
  simp only [sel_true, selv_true]
  obtain rfl := HF.out.1 rfl
  have hcp2 := HCP2.out
  go_wp2
  go_ret
  exact ⟨_, rfl, HEND.out⟩
def grownInv (W2 W3 : World) (N g gE n G cap i j : Nat) (z10 z11 z12 z13 z14 z15 z16 z17 z18 z19 z20 z21 z22 z23 z24 z25 z26 z27 z28 z29 z30 z31 z32 z33 z34 z35 z36 z37 z38 z39 z40 z41 z42 z43 z44 z45 : Value) (L : Array Bool) (ac : Act) (V : World) : Prop := ∃ (l0 l1 l2 l3 l4 l5 l6 l7 l8 : Bool), L = #[l0, l1, l2, l3, l4, l5, l6, l7, l8] ∧ ac = { tmps := #[.slice (some ⟨g, 0, none⟩) n cap, .int .i64 i, .slice (some ⟨gE, 0, none⟩) 1 1, undef, undef, undef, .slice none 0 0, .int .i64 1, .int .i64 n, .slice (some ⟨N, 0, none⟩) (n + 1) G, z10, z11, z12, z13, z14, z15, z16, z17, z18, z19, z20, z21, z22, z23, z24, z25, z26, z27, z28, z29, z30, z31, z32, z33, z34, z35, z36, z37, z38, z39, z40, z41, z42, z43, z44, z45, sel l0 (.slice (some ⟨N, 0, none⟩) (n + 1) G), sel l1 (.int .i64 i), sel l2 (.int .i64 1), sel l3 (.int .i64 j), sel l4 (.slice (some ⟨N, j * 3, none⟩) (n + 1 - j) (G - j)), sel l5 (.slice (some ⟨g, 0, none⟩) n cap), sel l6 (.int .i64 i), sel l7 (.slice (some ⟨g, i * 3, none⟩) (n - i) (cap - i)), sel l8 (goInt ((n - i : Nat) : Int)), undef, undef, undef, undef, undef, undef, undef, undef, undef, undef, undef, undef, undef, undef, undef, undef, undef, undef, undef, undef, undef, undef, undef, undef, undef, undef, undef, undef, undef, undef, undef, undef, undef, undef, undef, undef, undef, undef, undef, undef], defers := [] } ∧ za0 ((l8 = true → V = W3) ∧ (l8 = false → V = W2.drew))
set_option maxHeartbeats 1000000 in
set_option maxRecDepth 100000 in
theorem insert_grow (base g n cap i : Nat) (cs : List Value) (k : Dot) (u : Value) (gE : Nat) (w : World) (ho : w.ownsRow base 162 3 (.slice (some ⟨g, 0, none⟩) n cap) n cs)
  (hE : w.heap[gE]? = some (.cells #[.int .i64 k.f0, .int .i64 k.f1, u] 162 (0, 0))) (hu1 : u.oneCell' = true) (hcs1 : ∀ v ∈ cs, v.oneCell' = true) (hn : n ≤ 1000000) (hi : i < n) (hroom : cap < n + 1) (hb : base ≤ w.heap.size) :
  Calls Tryz.prog 104 #[.slice (some ⟨g, 0, none⟩) n cap, .int .i64 i, .slice (some ⟨gE, 0, none⟩) 1 1] w fun e w' => ∃ v', e = .returned v' ∧ w'.ownsRow base 162 3 v' (n + 1) (cs.take (i * 3) ++ entCells k u ++ cs.drop (i * 3)) ∧ w.grownBy w' (some g) := by
 obtain ⟨hcl, ho⟩ := ho
 rcases ho with ⟨h, _⟩ | ⟨g', cap', cur, he, hbg, hcur, hle, hmx, hsz, htk⟩
 ·
  cases h
 cases he
 obtain ⟨i0, hi0, hz0, hzs, hzb⟩ := info_parts infoE
 have hsize : (Tryz.prog.info? 162).map (·.size) = some 3 := by rw [hi0]; simp [hzs]
 have hcell : ∀ j v, cs[j]? = some v → w.cell? ⟨g, j, none⟩ = some v := fun j v hj => by
  rw [za4 hcur, ← Array.getElem?_toList]
  rw [← htk, List.getElem?_take] at hj
  split at hj
  ·
   exact hj
  ·
   cases hj
 have hgl : g < w.heap.size := zae hcur
 have hel : gE < w.heap.size := zae hE
 have hdl : (cs.drop (i * 3)).length = (n - i) * 3 := by rw [List.length_drop, hcl]; omega
 have hdl2 : (cs.take (i * 3)).length = i * 3 := by rw [List.length_take, hcl]; omega
 obtain ⟨z, hz⟩ : ∃ z : Value, (Value.agg #[(.int .i64 0), (.int .i64 0), (.slice none 0 0)]) = z := ⟨_, rfl⟩
 have hzc : z.cells.size = 3 := by rw [← hz]; rfl
 rw [hz] at hz0
 have hold : (Builtin.firstCells i0.size i (.slice (some ⟨g, 0, none⟩) i cap)).run Tryz.prog w.drew = .ok (cs.take (i * 3)).toArray w.drew := by
  rw [hzs]
  exact run_firstCells_some w.drew 3 i ⟨g, 0, none⟩ i cap (cs.take (i * 3)) (by rw [hdl2]) (fun j v hj => by
   rw [add_lit, Nat.zero_add]
   rw [List.getElem?_take] at hj
   split at hj
   ·
    exact hcell j v hj
   ·
    cases hj)
 obtain ⟨G, hG⟩ : ∃ G, G = grownCap w (n + 1) cap 162 := ⟨_, rfl⟩
 have hGn : n + 1 ≤ G := by rw [hG]; exact grownCap_ge w _ _ _
 have hGm : G ≤ maxLen := by rw [hG]; exact grownCap_le_maxLen w (n + 1) cap 162 (by unfold maxLen; omega)
 have hrz := Lib.run_append_grow_zeros w 157 3 157 162 i0 z .i64 .i64 Tryz.underlying157 Tryz.underlying3 hi0 hz0 (some ⟨g, 0, none⟩) i cap (cs.take (i * 3)) hold (n + 1 - i) (by omega) (by omega) (by omega) (by omega) (by rw [hzb]; omega) (by rw [hzb, show i + (n + 1 - i) = n + 1 by omega]; exact growslice_fits hroom (by omega))
 rw [show i + (n + 1 - i) = n + 1 by omega, ← hG] at hrz
 obtain ⟨ROW, hROW⟩ : ∃ ROW : Array Value, (cs.take (i * 3)).toArray ++ Builtin.zeroCells z.cells (n + 1 - i) ++ Builtin.zeroCells z.cells (G - (n + 1)) = ROW := ⟨_, rfl⟩
 rw [hROW] at hrz
 have hRs : ROW.size = G * 3 := by
  rw [← hROW, Array.size_append, Array.size_append, size_zeroCells, size_zeroCells, hzc, List.size_toArray, hdl2]; omega
 have hRl : ROW.toList.length = G * 3 := by rw [Array.length_toList]; exact hRs
 have hRt : ROW.toList.take (i * 3) = cs.take (i * 3) := by
  rw [← hROW, Array.toList_append, Array.toList_append, List.append_assoc]
  simp only []
  rw [List.take_left' hdl2]
 obtain ⟨W1, hW1⟩ : ∃ W1, w.drew.alloc (.cells ROW 162) = W1 := ⟨_, rfl⟩
 rw [hW1] at hrz
 obtain ⟨N, hN⟩ : ∃ N, w.heap.size = N := ⟨_, rfl⟩
 have hW1N : W1.heap[N]? = some (.cells ROW 162 (0, 0)) := by rw [← hW1, ← hN]; exact zaj w.drew _
 have hW1o : ∀ q, q < N → W1.heap[q]? = w.heap[q]? := fun q hq => by rw [← hW1]; exact ((Below.refl _ w.drew).alloc (Nat.le_refl _) _).block q (by show q < w.heap.size; omega)
 have hW1b : Below w.heap.size w W1 := by rw [← hW1]; exact za2 (za3 (Below.refl _ _)) _
 -- the first copy: the entry
 have hE1 : W1.heap[gE]? = some (.cells #[.int .i64 k.f0, .int .i64 k.f1, u] 162 (0, 0)) := (hW1o gE (by omega)).trans hE
 have hcp1 := run_copy_rowK (P := Tryz.prog) W1 157 157 3 162 3 N (i * 3) (n + 1 - i) (G - i) ⟨gE, 0, none⟩ 1 1 ROW 162 (entCells k u) Tryz.underlying157 hsize hW1N
  (by show 3 = _; simp only [Nat.min_def]; split <;> omega) (fun j v hj => entCells_at hE1 j v hj) (by rw [hRs]; show i * 3 + 3 ≤ _; omega) (entCells_one hu1)
 have hmin1 : Nat.min 1 (n + 1 - i) = 1 := by simp only [Nat.min_def]; split <;> omega
 rw [hmin1] at hcp1
 obtain ⟨cur1, hc1⟩ : ∃ cur1, (ROW.toList.take (i * 3) ++ entCells k u ++ ROW.toList.drop (i * 3 + (entCells k u).length)).toArray = cur1 := ⟨_, rfl⟩
 rw [hc1] at hcp1
 have hcl1 : cur1.toList.length = G * 3 := by
  rw [← hc1]
  simp only [List.length_append, List.length_take, List.length_drop, List.length_cons, List.length_nil, hRl]; omega
 obtain ⟨j, hj⟩ : ∃ j, i + 1 = j := ⟨_, rfl⟩
 have h1a : cur1.toList.take (j * 3) = cs.take (i * 3) ++ entCells k u := by
  rw [← hc1, hRt]
  simp only []
  exact List.take_left' (by rw [List.length_append, hdl2]; show i * 3 + 3 = j * 3; omega)
 obtain ⟨W2, hW2⟩ : ∃ W2, W1.setRow N cur1 = W2 := ⟨_, rfl⟩
 rw [hW2] at hcp1
 have hW2N : W2.heap[N]? = some (.cells cur1 162 (0, 0)) := by rw [← hW2]; exact setRow_at hW1N cur1
 have hW2o : ∀ q, q < N → W2.heap[q]? = w.heap[q]? := fun q hq => by rw [← hW2]; exact (setRow_other W1 N q cur1 (by omega)).trans (hW1o q hq)
 have hg2 := setRow_grown W1 N cur1
 rw [hW2] at hg2
 -- the second one: what stood from i on
 have hcp2 := run_copy_rowK (P := Tryz.prog) W2.drew 157 157 3 162 3 N (j * 3) (n + 1 - j) (G - j) ⟨g, i * 3, none⟩ (n - i) (cap - i) cur1 162 (cs.drop (i * 3)) Tryz.underlying157 hsize hW2N
  (by rw [hdl]; congr 1; simp only [Nat.min_def]; split <;> omega)
  (fun q v hq => by
   rw [add_lit]
   have := hcell _ v (by rwa [List.getElem?_drop] at hq)
   rw [← this]
   exact World.cell?_of_block (w := w) (hW2o g (by omega)))
  (by rw [hdl, ← Array.length_toList, hcl1]; omega) (fun v hv => hcs1 v (List.mem_of_mem_drop hv))
 have hmin2 : Nat.min (n - i) (n + 1 - j) = n - i := by simp only [Nat.min_def]; split <;> omega
 rw [hmin2] at hcp2
 obtain ⟨cur2, hc2⟩ : ∃ cur2, (cur1.toList.take (j * 3) ++ cs.drop (i * 3) ++ cur1.toList.drop (j * 3 + (cs.drop (i * 3)).length)).toArray = cur2 := ⟨_, rfl⟩
 rw [hc2] at hcp2
 obtain ⟨W3, hW3⟩ : ∃ W3, W2.drew.setRow N cur2 = W3 := ⟨_, rfl⟩
 rw [hW3] at hcp2
 have hg3 := setRow_grown W2.drew N cur2
 rw [hW3] at hg3
 have HEND : za0 (W3.ownsRow base 162 3 (.slice (some ⟨N, 0, none⟩) (n + 1) G) (n + 1) (cs.take (i * 3) ++ entCells k u ++ cs.drop (i * 3)) ∧ w.grownBy W3 (some g)) := ⟨by
  refine ⟨⟨?_, .inr ⟨N, G, cur2, rfl, by omega, by rw [← hW3]; exact setRow_at (show W2.drew.heap[N]? = _ from hW2N) cur2, hGn, hGm, ?_, ?_⟩⟩, ?_⟩
  ·
   simp only [List.length_append, hdl, hdl2, List.length_cons, List.length_nil]; omega
  ·
   rw [← Array.length_toList, ← hc2]
   simp only [List.length_append, List.length_take, List.length_drop, List.length_cons, List.length_nil, hcl1, hcl]; omega
  ·
   rw [← hc2, h1a]
   simp only []
   exact List.take_left' (by simp only [List.length_append, hdl, hdl2, List.length_cons, List.length_nil]; omega)
  ·
   exact ⟨hg3.os.trans (hg2.os.trans hW1b.os), hg3.tape.trans (hg2.tape.trans hW1b.tape), hg3.output.trans (hg2.output.trans hW1b.output), Nat.le_trans hW1b.size (Nat.le_trans hg2.size hg3.size), fun q hq _ => by
    have h3 := hg3.block q (by show q < W2.heap.size; have := hg2.size; have := hW1b.size; omega) (fun e => by cases e; omega)
    exact h3.trans (hW2o q (by omega))⟩⟩
 obtain ⟨rs, HRS⟩ : ∃ rs, za0 (cs.take (i * 3) ++ entCells k u ++ cs.drop (i * 3) = rs) := ⟨_, ⟨rfl⟩⟩
 rw [HRS.out] at HEND ⊢
 rw [hN] at hrz
 have HRZ := za0.mk hrz
 have HCP1 := za0.mk hcp1
 have HCP2 := za0.mk hcp2
 have HGM : za0 (G ≤ 9223372036854775807) := ⟨by unfold maxLen at hGm; omega⟩
 clear hG hcp1 hcp2 hrz hg2 hg3 hW3 hW2 hW1 hc1 hc2 h1a hcl1 hRl hRt hRs hROW hold hz hzc hz0 hzs hzb hi0 hsize hcell hdl hdl2 hW1b hW1o hW1N hE1 hW2N hW2o hcur htk hsz hcl hE hmin1 hmin2 hmx hGm hgl hel hbg hN hb
 have hz1 : ((i : Int) == (n : Int)) = false := beq_eq_false_iff_ne.2 (by omega)
 have hz2 : decide ((n : Int) + 1 > (cap : Int)) = true := decide_eq_true (by omega)
 have hz3 : decide ((cap : Int) < (n : Int) + 1) = true := decide_eq_true (by omega)
 have hij : (i : Int) + 1 = (j : Int) := by omega
 have hjn : j ≤ n + 1 := by omega
 have hjc : ¬ (G = j) := by omega
 have hic : ¬ (G = i) := by omega
 have hin : i ≤ n + 1 := by omega
 have hjn2 : (j : Int) ≤ (n : Int) + 1 := by omega
 have hin2 : (i : Int) ≤ (n : Int) + 1 := by omega
 have hic2 : ¬ (cap = i) := by omega
 have hkk : (n : Int) + 1 - (i : Int) = ((n + 1 - i : Nat) : Int) := by omega
 have hcp1 := HCP1.out
 clear hj
 go_enter Tryz.func104, Tryz.ntmps104
 go_wp2_with (at_builtin; refine wpList_append_eq2 rfl (.tmp 34) (.tmp 39) 157 3 rfl rfl rfl HRZ.out ?_)
 refine AnyOrder.wp_region (by kernel_rfl) (grownInv W2 W3 N g gE n G cap i j _ _ _ _ _ _ _ _ _ _ _ _ _ _ _ _ _ _ _ _ _ _ _ _ _ _ _ _ _ _ _ _ _ _ _ _) ⟨false, false, false, false, false, false, false, false, false, rfl, rfl, ⟨⟨fun h => (by cases h), fun _ => rfl⟩⟩⟩ ?step ?last
 case step =>
  rintro L ac V i ⟨l0, l1, l2, l3, l4, l5, l6, l7, l8, rfl, rfl, HF⟩ hi K hK
  rcases AnyOrder.up hi [0, 1, 2, 3, 4, 5, 6, 7, 8] rfl with rfl | rfl | rfl | rfl | rfl | rfl | rfl | rfl | rfl
  all_goals
   replace hi := AnyOrder.first hi rfl
   repeat (obtain ⟨ha, hi⟩ := hi; first | obtain rfl := ha | clear ha)
   clear hi
   try simp only [sel_true, selv_true] at hK ⊢
  iterate 8
   ·
    refine AnyOrder.wpOp_go rfl (by rfl) ?_
    go_wp2_with fail
    exact ⟨_, _, _, _, _, _, _, _, _, rfl, rfl, HF⟩
  ·
   obtain rfl := HF.out.2 rfl
   refine AnyOrder.wpOp_go rfl (by rfl) ?_
   refine wp_copy_eq (.tmp 50) (.tmp 53) 157 rfl rfl rfl (HCP2.out) ?_
   exact hK _ _ ⟨_, _, _, _, _, _, _, _, _, rfl, rfl, ⟨⟨fun _ => rfl, fun h => (by cases h)⟩⟩⟩
 case last =>
  rintro L ac V ⟨l0, l1, l2, l3, l4, l5, l6, l7, l8, rfl, rfl, HF⟩ hr
  obtain ⟨rfl, rfl, rfl, rfl, rfl, rfl, rfl, rfl, rfl, -⟩ := AnyOrder.alls rfl (by kernel_rfl) hr
  clear hr
  simp only [sel_true, selv_true]
  obtain rfl := HF.out.1 rfl
  go_wp2
  go_ret
  exact ⟨_, rfl, HEND.out⟩
end
section
theorem insert_call (base : Nat) (v : Value) (n i : Nat) (cs : List Value) (k : Dot) (u : Value) (gE : Nat) (w : World) (ho : w.ownsRow base 162 3 v n cs)
  (hE : w.heap[gE]? = some (.cells #[.int .i64 k.f0, .int .i64 k.f1, u] 162 (0, 0))) (hne : some gE ≠ v.ownBlock) (hu1 : u.oneCell' = true) (hcs1 : ∀ v ∈ cs, v.oneCell' = true) (hn : n ≤ 1000000) (hi : i ≤ n) (hb : base ≤ w.heap.size) :
  Calls Tryz.prog 104 #[v, .int .i64 i, .slice (some ⟨gE, 0, none⟩) 1 1] w fun e w' => ∃ v', e = .returned v' ∧ w'.ownsRow base 162 3 v' (n + 1) (cs.take (i * 3) ++ entCells k u ++ cs.drop (i * 3)) ∧ w.grownBy w' v.ownBlock := by
 have hcl : cs.length = n * 3 := ho.1
 by_cases hin : i = n
 ·
  subst hin
  obtain ⟨A, cap, rfl⟩ : ∃ A cap, v = .slice A i cap := by
   rcases ho.2 with ⟨rfl, rfl⟩ | ⟨g, c, cur, rfl, _⟩
   ·
    exact ⟨none, 0, rfl⟩
   ·
    exact ⟨_, _, rfl⟩
  rw [List.take_of_length_le (by omega), List.drop_of_length_le (by omega), List.append_nil]
  exact insert_end base A i cap cs k u gE w ho hE hu1 hn hb
 ·
  obtain ⟨g, cap, rfl⟩ : ∃ g cap, v = .slice (some ⟨g, 0, none⟩) n cap := by
   rcases ho.2 with ⟨_, h⟩ | ⟨g, c, cur, rfl, _⟩
   ·
    omega
   ·
    exact ⟨_, _, rfl⟩
  have hg : gE ≠ g := fun e => hne (by subst e; rfl)
  by_cases hr : n + 1 ≤ cap
  ·
   exact insert_shift base g n cap i cs k u gE w ho hE hg hu1 hcs1 hn (by omega) hr
  ·
   exact insert_grow base g n cap i cs k u gE w ho hE hu1 hcs1 hn (by omega) (by omega) hb
/-- Only the blocks of E have turned. -/
structure Tch (E : Nat → Prop) (W W' : World) : Prop where
 os : W'.os = W.os
 tape : W'.tape = W.tape
 output : W'.output = W.output
 size : W.heap.size ≤ W'.heap.size
 block : ∀ i, i < W.heap.size → ¬ E i → W'.heap[i]? = W.heap[i]?
theorem Tch.below {E : Nat → Prop} {W W' : World} (h : Below W.heap.size W W') : Tch E W W' := ⟨h.os, h.tape, h.output, h.size, fun i hi _ => h.block i hi⟩
theorem Tch.grown {E : Nat → Prop} {W W' : World} {row : Option Nat} (h : W.grownBy W' row) (hr : ∀ r, row = some r → E r) : Tch E W W' := ⟨h.os, h.tape, h.output, h.size, fun i hi he => h.block i hi (fun e => he (hr i e.symm))⟩
theorem Tch.trans {E E' : Nat → Prop} {A B C : World} (h : Tch E A B) (k : Tch E' B C) (he : ∀ i, i < A.heap.size → E' i → E i) : Tch E A C :=
 ⟨k.os.trans h.os, k.tape.trans h.tape, k.output.trans h.output, Nat.le_trans h.size k.size, fun i hi hn => (k.block i (Nat.lt_of_lt_of_le hi h.size) (fun e => hn (he i hi e))).trans (h.block i hi hn)⟩
theorem Tch.mono {E E' : Nat → Prop} {A B : World} (h : Tch E A B) (he : ∀ i, i < A.heap.size → E i → E' i) : Tch E' A B := ⟨h.os, h.tape, h.output, h.size, fun i hi hn => h.block i hi (fun e => hn (he i hi e))⟩
theorem Tch.on {E : Nat → Prop} {w W W' : World} (h : Tch E W W') (hb : Below w.heap.size w W) (he : ∀ i, E i → w.heap.size ≤ i) : Below w.heap.size w W' :=
 ⟨h.os.trans hb.os, h.tape.trans hb.tape, h.output.trans hb.output, Nat.le_trans hb.size h.size, fun i hi => (h.block i (Nat.lt_of_lt_of_le hi hb.size) (fun e => by have := he i e; omega)).trans (hb.block i hi)⟩
def entsOf : List Dot → List Value → List Value
 | k :: ks, v :: vs => entCells k v ++ entsOf ks vs
 | _, _ => []
theorem entsOf_length : ∀ {ks : List Dot} {vs : List Value}, vs.length = ks.length → (entsOf ks vs).length = ks.length * 3
 | [], [], _ => rfl
 | k :: ks, v :: vs, h => by
  have := entsOf_length (ks := ks) (vs := vs) (by simpa using h)
  rw [entsOf, List.length_append, this]; simp; omega
 | [], v :: vs, h => by simp at h
 | k :: ks, [], h => by simp at h
theorem entsOf_take : ∀ {ks : List Dot} {vs : List Value} (i : Nat), vs.length = ks.length → entsOf (ks.take i) (vs.take i) = (entsOf ks vs).take (i * 3)
 | [], [], i, _ => by simp [entsOf]
 | k :: ks, v :: vs, 0, _ => by simp [entsOf]
 | k :: ks, v :: vs, i + 1, h => by
  rw [List.take_succ_cons, List.take_succ_cons, entsOf, entsOf, entsOf_take i (by simpa using h), show (i + 1) * 3 = (entCells k v).length + i * 3 by show _ = 3 + i * 3; omega, List.take_length_add_append]
 | [], v :: vs, i, h => by simp at h
 | k :: ks, [], i, h => by simp at h
theorem entsOf_drop : ∀ {ks : List Dot} {vs : List Value} (i : Nat), vs.length = ks.length → entsOf (ks.drop i) (vs.drop i) = (entsOf ks vs).drop (i * 3)
 | [], [], i, _ => by simp [entsOf]
 | k :: ks, v :: vs, 0, _ => by simp
 | k :: ks, v :: vs, i + 1, h => by
  rw [List.drop_succ_cons, List.drop_succ_cons, entsOf, entsOf_drop i (by simpa using h), show (i + 1) * 3 = (entCells k v).length + i * 3 by show _ = 3 + i * 3; omega, List.drop_length_add_append]
 | [], v :: vs, i, h => by simp at h
 | k :: ks, [], i, h => by simp at h
theorem entsOf_append : ∀ {ks ks' : List Dot} {vs vs' : List Value}, vs.length = ks.length → entsOf (ks ++ ks') (vs ++ vs') = entsOf ks vs ++ entsOf ks' vs'
 | [], _, [], _, _ => rfl
 | k :: ks, _, v :: vs, _, h => by
  rw [List.cons_append, List.cons_append, entsOf, entsOf, entsOf_append (by simpa using h), List.append_assoc]
 | [], _, v :: vs, _, h => by simp at h
 | k :: ks, _, [], _, h => by simp at h
theorem entsOf_get : ∀ {ks : List Dot} {vs : List Value} {i : Nat} {k : Dot} {v : Value}, ks[i]? = some k → vs[i]? = some v → ∀ j, j < 3 → (entsOf ks vs)[i * 3 + j]? = (entCells k v)[j]?
 | k :: ks, v :: vs, 0, k', v', hk, hv, j, hj => by
  simp at hk hv; subst hk hv
  rw [entsOf, Nat.zero_mul, Nat.zero_add, List.getElem?_append_left (by show j < 3; exact hj)]
 | k :: ks, v :: vs, i + 1, k', v', hk, hv, j, hj => by
  rw [entsOf, show (i + 1) * 3 + j = 3 + (i * 3 + j) by omega, List.getElem?_append_right (by show 3 ≤ _; omega)]
  rw [show 3 + (i * 3 + j) - (entCells k v).length = i * 3 + j by show 3 + (i * 3 + j) - 3 = _; omega]
  exact entsOf_get (by simpa using hk) (by simpa using hv) j hj
 | [], _, i, k, v, hk, _, _, _ => by simp at hk
 | _ :: _, [], i, k, v, _, hv, _, _ => by simp at hv
theorem entsOf_one : ∀ {ks : List Dot} {vs : List Value}, (∀ v ∈ vs, v.oneCell' = true) → ∀ u ∈ entsOf ks vs, u.oneCell' = true
 | [], _, _, u, hu => by simp [entsOf] at hu
 | _ :: _, [], _, u, hu => by simp [entsOf] at hu
 | k :: ks, v :: vs, h, u, hu => by
  rw [entsOf] at hu
  rcases List.mem_append.1 hu with hu | hu
  ·
   exact entCells_one (h v List.mem_cons_self) u hu
  ·
   exact entsOf_one (fun x hx => h x (List.mem_cons_of_mem _ hx)) u hu
theorem entsOf_set : ∀ {ks : List Dot} {vs : List Value} {i : Nat} {k : Dot} {u : Value}, vs.length = ks.length → ks[i]? = some k → entsOf ks (vs.set i u) = (entsOf ks vs).set (i * 3 + 2) u
 | k :: ks, v :: vs, 0, k', u, h, hk => by simp [entsOf]
 | k :: ks, v :: vs, i + 1, k', u, h, hk => by
  rw [List.set_cons_succ, entsOf, entsOf, entsOf_set (by simpa using h) (by simpa using hk), List.set_append_right _ _ (by show 3 ≤ _; omega)]
  congr 2
  show i * 3 + 2 = (i + 1) * 3 + 2 - 3
  omega
 | [], _, i, k, u, _, hk => by simp at hk
 | k :: ks, [], i, k', u, h, _ => by simp at h
/-- The map at mp has these keys with these values, in memory of the call's own. -/
structure MapSt (base : Nat) (W : World) (mp : Nat) (v : Value) (ks : List Dot) (vs : List Value) : Prop where
 map : W.heap[mp]? = some (.cells #[cmpV, v] 159 (0, 0))
 own : base ≤ mp
 row : W.ownsRow base 162 3 v ks.length (entsOf ks vs)
 len : vs.length = ks.length
 small : ks.length ≤ 1000000
 one : ∀ v ∈ vs, v.oneCell' = true
 inc : incB ks = true
theorem MapSt.ents {base : Nat} {W : World} {mp : Nat} {v : Value} {ks : List Dot} {vs : List Value} (h : MapSt base W mp v ks vs) : ∃ A c, v = .slice A ks.length c ∧ Ents W A ks.length ks vs := by
 rcases h.row.2 with ⟨rfl, h0⟩ | ⟨g, c, cur, rfl, hbg, hcur, hle, hmx, hsz, htk⟩
 ·
  have hks : ks = [] := List.length_eq_zero_iff.1 h0
  subst hks
  exact ⟨none, 0, rfl, ⟨rfl, h.len, by simp, h.one, fun i k v hk => by simp at hk⟩⟩
 ·
  refine ⟨_, c, rfl, ⟨rfl, h.len, h.small, h.one, fun i k v hk hv => ⟨g, rfl, ?_⟩⟩⟩
  have hi : i < ks.length := (List.getElem?_eq_some_iff.1 hk).1
  have hc : ∀ j, j < 3 → W.cell? ⟨g, i * 3 + j, none⟩ = (entCells k v)[j]? := fun j hj => by
   rw [za4 hcur, ← Array.getElem?_toList, ← entsOf_get hk hv j hj, ← htk, List.getElem?_take, if_pos (by omega)]
  exact ⟨hc 0 (by decide), hc 1 (by decide), hc 2 (by decide)⟩
theorem ownsRow_keep {W V : World} {base e size n : Nat} {v : Value} {xs : List Value} (h : W.ownsRow base e size v n xs) (hk : ∀ g, v.ownBlock = some g → V.heap[g]? = W.heap[g]?) : V.ownsRow base e size v n xs := by
 refine ⟨h.1, h.2.imp id ?_⟩
 rintro ⟨g, c, cur, rfl, hbg, hcur, hr⟩
 exact ⟨g, c, cur, rfl, hbg, (hk g rfl).trans hcur, hr⟩
theorem MapSt.keep {base : Nat} {W V : World} {mp : Nat} {v : Value} {ks : List Dot} {vs : List Value} (h : MapSt base W mp v ks vs) (hm : V.heap[mp]? = W.heap[mp]?) (hv : ∀ g, v.ownBlock = some g → V.heap[g]? = W.heap[g]?) : MapSt base V mp v ks vs :=
 ⟨hm.trans h.map, h.own, ownsRow_keep h.row hv, h.len, h.small, h.one, h.inc⟩
theorem MapSt.below {base : Nat} {W V : World} {mp : Nat} {v : Value} {ks : List Dot} {vs : List Value} (h : MapSt base W mp v ks vs) (hb : Below W.heap.size W V) : MapSt base V mp v ks vs :=
 h.keep (hb.block mp (zae h.map)) (fun g hg => by
  rcases h.row.2 with ⟨rfl, _⟩ | ⟨g', c, cur, rfl, _, hcur, _⟩
  ·
   cases hg
  ·
   cases hg; exact hb.block _ (zae hcur))
/-- The map's own blocks. -/
def MapBl (mp : Nat) (v : Value) (i : Nat) : Prop := i = mp ∨ v.ownBlock = some i
theorem MapSt.apart {base : Nat} {W : World} {mp : Nat} {v : Value} {ks : List Dot} {vs : List Value} (h : MapSt base W mp v ks vs) : v.ownBlock ≠ some mp := fun e => by
 rcases h.row.2 with ⟨rfl, _⟩ | ⟨g, c, cur, rfl, _, hcur, _⟩
 ·
  cases e
 ·
  cases e
  rw [h.map] at hcur
  exact absurd (Obj.cells.inj (Option.some.inj hcur)).2.1 (by decide)
theorem MapSt.base_le {base : Nat} {W : World} {mp : Nat} {v : Value} {ks : List Dot} {vs : List Value} (h : MapSt base W mp v ks vs) {i : Nat} (hi : MapBl mp v i) : base ≤ i := by
 rcases hi with rfl | hi
 ·
  exact h.own
 ·
  rcases h.row.2 with ⟨rfl, _⟩ | ⟨g, c, cur, rfl, hb, hcur, _⟩
  ·
   cases hi
  ·
   cases hi; exact hb
def setKs (ks : List Dot) (d : Dot) : List Dot := if hasK ks d = true then ks else ks.take (posK ks d) ++ d :: ks.drop (posK ks d)
def setVs (ks : List Dot) (vs : List Value) (d : Dot) (u : Value) : List Value := if hasK ks d = true then vs.set (posK ks d) u else vs.take (posK ks d) ++ u :: vs.drop (posK ks d)
theorem setKs_len {ks : List Dot} {d : Dot} (h : hasK ks d = false) : (setKs ks d).length = ks.length + 1 := by
 unfold setKs
 rw [if_neg (by rw [h]; decide), List.length_append, List.length_cons, List.length_take, List.length_drop]
 have := posK_le ks d
 omega
theorem entsOf_ins {ks : List Dot} {vs : List Value} {d : Dot} {u : Value} (h : hasK ks d = false) (hl : vs.length = ks.length) : entsOf (setKs ks d) (setVs ks vs d u) = (entsOf ks vs).take (posK ks d * 3) ++ entCells d u ++ (entsOf ks vs).drop (posK ks d * 3) := by
 unfold setKs setVs
 rw [if_neg (by rw [h]; decide), if_neg (by rw [h]; decide), entsOf_append (by rw [List.length_take, List.length_take, hl]), entsOf, entsOf_take _ hl, entsOf_drop _ hl, List.append_assoc]
theorem setKs_inc {ks : List Dot} {d : Dot} (h : incB ks = true) : incB (setKs ks d) = true := by
 unfold setKs
 by_cases hh : hasK ks d = true
 ·
  rw [if_pos hh]; exact h
 ·
  rw [if_neg hh]
  have hq : ks[posK ks d]? ≠ some d := fun e => hh (by unfold hasK; exact decide_eq_true e)
  unfold posK at hq ⊢
  clear hh
  induction ks with
  | nil => rfl
  | cons y ks ih =>
   obtain ⟨h1, h2⟩ := incB_tail h
   rw [List.takeWhile_cons] at hq ⊢
   by_cases hy : dotLt y d = true
   ·
    rw [if_pos hy] at hq ⊢
    simp only [List.length_cons, List.take_succ_cons, List.drop_succ_cons, List.cons_append] at hq ⊢
    have hr := ih h1 (by simpa using hq)
    revert hr
    generalize (List.takeWhile (fun k => dotLt k d) ks).length = q
    intro hr
    cases q with
    | zero =>
     simp only [List.take_zero, List.nil_append, List.drop_zero] at hr ⊢
     simp only [incB, hy, Bool.true_and]
     exact hr
    | succ q =>
     cases ks with
     | nil =>
      simp only [List.take_nil, List.nil_append, List.drop_nil] at hr ⊢
      simp only [incB, hy, Bool.true_and]
     | cons z ks =>
      simp only [List.take_succ_cons, List.cons_append] at hr ⊢
      simp only [incB, h2 z List.mem_cons_self, Bool.true_and]
      exact hr
   ·
    rw [if_neg hy] at hq ⊢
    simp only [List.length_nil, List.take_zero, List.nil_append, List.drop_zero] at hq ⊢
    have hne : y ≠ d := fun e => hq (by rw [e]; rfl)
    have : dotLt d y = true := by
     cases hh : dotLt d y with
     | true => rfl
     | false => exact absurd (dotLt_total (by simpa using hy) hh) hne
    simp only [incB, this, Bool.true_and]
    exact h
structure SetF (base : Nat) (w1 : World) (mp : Nat) (v : Value) (ks : List Dot) (vs : List Value) (d : Dot) (u : Value) (l4 l6 l8 l9 l10 l13 : Bool) (g : Nat) (vv : Value) (V : World) : Prop where
 ord8 : l8 = true → l6 = true
 ord9 : l9 = true → l6 = true
 ord10 : l10 = true → l4 = true ∧ l6 = true ∧ l9 = true
 ord13 : l13 = true → l10 = true
 pre : l10 = false → Below w1.heap.size w1 V
 ent : l9 = true → l10 = false → w1.heap.size ≤ g ∧ V.heap[g]? = some (.cells #[.int .i64 d.f0, .int .i64 d.f1, u] 162 (0, 0))
 mid : l10 = true → l13 = false → V.ownsRow base 162 3 vv (ks.length + 1) (entsOf (setKs ks d) (setVs ks vs d u)) ∧ V.heap[mp]? = w1.heap[mp]? ∧ Tch (fun i => v.ownBlock = some i) w1 V
 fin : l13 = true → V.heap[mp]? = some (.cells #[cmpV, vv] 159 (0, 0)) ∧ V.ownsRow base 162 3 vv (ks.length + 1) (entsOf (setKs ks d) (setVs ks vs d u)) ∧ Tch (MapBl mp v) w1 V
theorem SetF.no {base : Nat} {w1 : World} {mp : Nat} {v : Value} {ks : List Dot} {vs : List Value} {d : Dot} {u : Value} {l4 l6 l8 l9 l10 l13 : Bool} {g : Nat} {vv : Value} {V : World} (h : SetF base w1 mp v ks vs d u l4 l6 l8 l9 l10 l13 g vv V) (hl : l4 = false ∨ l6 = false ∨ l9 = false) : l10 = false ∧ l13 = false := by
 have h10 : l10 = false := by
  cases l10 with
  | false => rfl
  | true =>
   obtain ⟨h1, h2, h3⟩ := h.ord10 rfl
   rcases hl with hl | hl | hl
   ·
    rw [hl] at h1; cases h1
   ·
    rw [hl] at h2; cases h2
   ·
    rw [hl] at h3; cases h3
 refine ⟨h10, ?_⟩
 cases l13 with
 | false => rfl
 | true => have := h.ord13 rfl; rw [h10] at this; cases this
theorem set_insert {base mp : Nat} {v : Value} {ks : List Dot} {vs : List Value} {d : Dot} {u : Value} {q : Nat} {w1 V : World} {g : Nat} (hM : MapSt base w1 mp v ks vs) (hf : hasK ks d = false) (hq : posK ks d = q) (hu : u.oneCell' = true) (hb : base ≤ w1.heap.size) (hbw : Below w1.heap.size w1 V) (he : w1.heap.size ≤ g ∧ V.heap[g]? = some (.cells #[.int .i64 d.f0, .int .i64 d.f1, u] 162 (0, 0))) :
  Calls Tryz.prog 104 #[v, .int .i64 q, .slice (some ⟨g, 0, none⟩) 1 1] V fun e V' => ∃ v2, e = .returned v2 ∧ V'.ownsRow base 162 3 v2 (ks.length + 1) (entsOf (setKs ks d) (setVs ks vs d u)) ∧ V'.heap[mp]? = w1.heap[mp]? ∧ Tch (fun i => v.ownBlock = some i) w1 V' := by
 have hM2 := hM.below hbw
 have hql : q ≤ ks.length := by rw [← hq]; exact posK_le ks d
 refine (insert_call base v ks.length q (entsOf ks vs) d u g V hM2.row he.2 ?_ hu (entsOf_one hM.one) hM.small hql (Nat.le_trans hb hbw.size)).mono ?_
 ·
  intro e
  rcases hM.row.2 with ⟨rfl, _⟩ | ⟨g', c, cur, rfl, _, hcur, _⟩
  ·
   cases e
  ·
   have e2 : g = g' := Option.some.inj e
   have := zae hcur
   omega
 ·
  rintro e V' ⟨v2, rfl, ho, hg⟩
  refine ⟨v2, rfl, by rw [entsOf_ins hf hM.len, hq]; exact ho, ?_, (Tch.below hbw).trans (Tch.grown hg (fun r e => e)) (fun i _ e => e)⟩
  exact (hg.block mp (zae hM2.map) (fun e => hM.apart e.symm)).trans (hM2.map.trans hM.map.symm)
theorem ownsRow_slice {base e size n : Nat} {v : Value} {xs : List Value} {W : World} (h : W.ownsRow base e size v n xs) : ∃ A c, v = .slice A n c := by
 rcases h.2 with ⟨rfl, rfl⟩ | ⟨g, c, cur, rfl, _⟩
 ·
  exact ⟨none, 0, rfl⟩
 ·
  exact ⟨_, _, rfl⟩
theorem set_store {base mp n : Nat} {v vv : Value} {xs : List Value} {w1 V : World} (hr : V.ownsRow base 162 3 vv n xs) (hm : V.heap[mp]? = some (.cells #[cmpV, v] 159 (0, 0))) (ht : Tch (fun i => v.ownBlock = some i) w1 V) :
  (V.setCell ⟨mp, 1, none⟩ vv).heap[mp]? = some (.cells #[cmpV, vv] 159 (0, 0)) ∧ (V.setCell ⟨mp, 1, none⟩ vv).ownsRow base 162 3 vv n xs ∧ Tch (MapBl mp v) w1 (V.setCell ⟨mp, 1, none⟩ vv) := by
 have hgr : V.grownBy (V.setCell ⟨mp, 1, none⟩ vv) (some mp) := ⟨rfl, rfl, rfl, by rw [World.size_setCell]; exact Nat.le_refl _, fun k hk hne => Below.heap_setCell V _ _ k (fun e => hne (by rw [e]))⟩
 refine ⟨blk_set hm 1 vv, ownsRow_keep hr (fun g hg => ?_), Tch.trans (E := MapBl mp v) (ht.mono (fun i _ h => Or.inr h)) (Tch.grown hgr (E := fun i => mp = i) (fun r e => Option.some.inj e)) (fun i _ e => Or.inl e.symm)⟩
 refine Below.heap_setCell V _ _ g (fun e => ?_)
 rcases hr.2 with ⟨rfl, _⟩ | ⟨g', c, cur, rfl, _, hcur, _⟩
 ·
  cases hg
 ·
  cases hg
  rw [show g' = mp from e, hm] at hcur
  exact absurd (Obj.cells.inj (Option.some.inj hcur)).2.1 (by decide)
def setInv (base : Nat) (w1 : World) (B mp : Nat) (v : Value) (ks : List Dot) (vs : List Value) (d : Dot) (q : Nat) (Au : Option Addr) (nu cu : Nat) (z9 z10 z11 z12 z13 z14 z15 z16 z17 z18 z19 z20 : Value) (L : Array Bool) (ac : Act) (V : World) : Prop := ∃ (l0 l1 l2 l3 l4 l5 l6 l7 l8 l9 l10 l11 l12 l13 : Bool) (g : Nat) (vv : Value), L = #[l0, l1, l2, l3, l4, l5, l6, l7, l8, l9, l10, l11, l12, l13] ∧ ac = { tmps := #[.pointer (some ⟨mp, 0, none⟩), vDot d, .slice Au nu cu, undef, .pointer (some ⟨B, 0, none⟩), undef, .slice none 0 0, .bool false, .int .i64 q, z9, z10, z11, z12, z13, z14, z15, z16, z17, z18, z19, z20, sel l0 (.pointer (some ⟨mp, 0, none⟩)), sel l1 (.pointer (some ⟨mp, 0, none⟩)), sel l2 (.pointer (some ⟨mp, 0, none⟩)), sel l3 (.pointer (some ⟨mp, 1, none⟩)), sel l4 (v), sel l5 (.int .i64 q), sel l6 (vDot d), sel l7 (.slice Au nu cu), sel l8 (vEnt d (.slice Au nu cu)), sel l9 (.slice (some ⟨g, 0, none⟩) 1 1), sel l10 (vv), sel l11 (.pointer (some ⟨mp, 0, none⟩)), sel l12 (.pointer (some ⟨mp, 1, none⟩)), undef, undef, undef, undef, undef, undef, undef, undef, undef, undef, undef, undef, undef, undef, undef, undef, undef, undef], defers := [] } ∧ za0 (SetF base w1 mp v ks vs d (.slice Au nu cu) l4 l6 l8 l9 l10 l13 g vv V)
set_option maxHeartbeats 2000000 in
set_option maxRecDepth 100000 in
theorem set_call (base mp : Nat) (v : Value) (ks : List Dot) (vs : List Value) (d : Dot) (Au : Option Addr) (nu cu : Nat) (w : World) (h : MapSt base w mp v ks vs) (hn : ks.length < 1000000) (hb : base ≤ w.heap.size) :
  Calls Tryz.prog 91 #[.pointer (some ⟨mp, 0, none⟩), vDot d, .slice Au nu cu] w fun e w' => ∃ r v', e = .returned r ∧ MapSt base w' mp v' (setKs ks d) (setVs ks vs d (.slice Au nu cu)) ∧ Tch (MapBl mp v) w w' := by
 have HM : za0 (MapSt base (w.alloc (.cells #[.int .i64 d.f0, .int .i64 d.f1] 39 (0, 0))) mp v ks vs) := ⟨h.below (Gr.alloc w _).below⟩
 have HK : za0 ((w.alloc (.cells #[.int .i64 d.f0, .int .i64 d.f1] 39 (0, 0))).heap[w.heap.size]? = some (.cells #[.int .i64 d.f0, .int .i64 d.f1] 39 (0, 0))) := ⟨zaj _ _⟩
 have HB : za0 (Below w.heap.size w (w.alloc (.cells #[.int .i64 d.f0, .int .i64 d.f1] 39 (0, 0)))) := ⟨(Gr.alloc w _).below⟩
 have HBS := za0.mk hb
 have HN := za0.mk hn
 have hc0 : (w.alloc (.cells #[.int .i64 d.f0, .int .i64 d.f1] 39 (0, 0))).cell? ⟨w.heap.size, 0, none⟩ = _ := (za4 HK.out 0).trans rfl
 have hc1 : (w.alloc (.cells #[.int .i64 d.f0, .int .i64 d.f1] 39 (0, 0))).cell? ⟨w.heap.size, 1, none⟩ = _ := (za4 HK.out 1).trans rfl
 clear h hn hb
 obtain ⟨q, HQ⟩ : ∃ q, za0 (posK ks d = q) := ⟨_, ⟨rfl⟩⟩
 obtain ⟨hf, HHF⟩ : ∃ hf, za0 (hasK ks d = hf) := ⟨_, ⟨rfl⟩⟩
 go_enter Tryz.func91, Tryz.ntmps91
 go_wp2_with fail
 refine (zero_call mp _ _ HM.out.map).mono ?_
 rintro e w1 ⟨rfl, rfl⟩
 go_wp2_with fail
 obtain ⟨A, c, hv, hents⟩ := HM.out.ents
 have hfind := find_call mp ks vs A ks.length c d _ HM.out.inc hents (by rw [← hv]; exact HM.out.map)
 refine hfind.mono ?_
 clear hfind hents hc0 hc1
 rintro e w1 ⟨rfl, hb⟩
 have HM := za0.mk (HM.out.below hb)
 have HK := za0.mk (zab HK.out hb)
 have HB := za0.mk (za8 HB.out hb)
 rw [HQ.out, HHF.out]
 clear hb
 cases hf with
 | true =>
  have HQN : za0 (q < ks.length) := ⟨by have := hasK_lt HHF.out; rwa [HQ.out] at this⟩
  have hqn := HQN.out
  clear hv
  obtain ⟨A, c, rfl, hents⟩ := HM.out.ents
  obtain ⟨k', v', eb, hk, hvk, hv1, rfl, c0, c1, c2⟩ := hents.get HQN.out
  have hm1 : w1.cell? ⟨mp, 1, none⟩ = _ := (za4 HM.out.map 1).trans rfl
  have hrow := HM.out.row
  rcases hrow.2 with ⟨h, _⟩ | ⟨g', c', cur, he, hbg, hcur, hle, hmx, hsz, htk⟩
  ·
   cases h
  cases he
  have hfz := za9 hcur (q * 3 + 2)
  have HEND : za0 (MapSt base (w1.setCell ⟨eb, q * 3 + 2, none⟩ (.slice Au nu cu)) mp (.slice (some ⟨eb, 0, none⟩) ks.length c) (setKs ks d) (setVs ks vs d (.slice Au nu cu)) ∧ Tch (MapBl mp (.slice (some ⟨eb, 0, none⟩) ks.length c)) w (w1.setCell ⟨eb, q * 3 + 2, none⟩ (.slice Au nu cu))) := ⟨by
   have hgr : w1.grownBy (w1.setCell ⟨eb, q * 3 + 2, none⟩ (.slice Au nu cu)) (some eb) := ⟨rfl, rfl, rfl, by rw [World.size_setCell]; exact Nat.le_refl _, fun k hk hne => Below.heap_setCell w1 _ _ k (fun e => hne (by rw [e]))⟩
   have hne : mp ≠ eb := fun e => HM.out.apart (by rw [e]; rfl)
   have hlen : (vs.set q (.slice Au nu cu)).length = ks.length := by rw [List.length_set]; exact HM.out.len
   have hks : setKs ks d = ks := by unfold setKs; rw [if_pos HHF.out]
   have hvs : setVs ks vs d (.slice Au nu cu) = vs.set q (.slice Au nu cu) := by unfold setVs; rw [if_pos HHF.out, HQ.out]
   rw [hks, hvs]
   refine ⟨⟨(hgr.block mp (zae HM.out.map) (fun e => hne (Option.some.inj e))).trans HM.out.map, HM.out.own, ⟨entsOf_length hlen, .inr ⟨eb, c, _, rfl, hbg, blk_set hcur (q * 3 + 2) _, hle, hmx, by rw [Array.size_setIfInBounds]; exact hsz, ?_⟩⟩, hlen, HM.out.small, ?_, HM.out.inc⟩, ?_⟩
   ·
    rw [Array.toList_setIfInBounds, List.take_set, htk, entsOf_set HM.out.len hk]
   ·
    intro x hx
    rcases List.mem_or_eq_of_mem_set hx with hx | rfl
    ·
     exact HM.out.one x hx
    ·
     rfl
   ·
    exact (Tch.below HB.out).trans (Tch.grown hgr (E := fun i => eb = i) (fun r e => by cases e; rfl)) (fun i _ e => .inr (by subst e; rfl))⟩
  clear hfz hcur htk hsz hrow hents hk hvk hv1 HK HB c0 c1
  have hfz : w1.frozen? ⟨eb, q * 3 + 2, none⟩ = false := by
   rcases HM.out.row.2 with ⟨h, _⟩ | ⟨g', c', cur, he, _, hcur, _⟩
   ·
    cases h
   ·
    cases he; exact za9 hcur _
  go_wp2
  refine bodyPost_ret (results_tmp2 rfl _ _ _) rfl ?_
  exact ⟨_, _, rfl, HEND.out⟩
 | false =>
  have HW1 : za0 (base ≤ w1.heap.size) := ⟨Nat.le_trans HBS.out HB.out.size⟩
  clear hv
  go_wp2_with fail
  refine AnyOrder.wp_region (by kernel_rfl) (setInv base w1 w.heap.size mp v ks vs d q Au nu cu _ _ _ _ _ _ _ _ _ _ _ _) ⟨false, false, false, false, false, false, false, false, false, false, false, false, false, false, 0, undef, rfl, rfl, ⟨⟨fun h => (by cases h), fun h => (by cases h), fun h => (by cases h), fun h => (by cases h), fun _ => za3 (Below.refl _ _), fun h => (by cases h), fun h => (by cases h), fun h => (by cases h)⟩⟩⟩ ?step ?last
  case step =>
   rintro L ac V i ⟨l0, l1, l2, l3, l4, l5, l6, l7, l8, l9, l10, l11, l12, l13, g, vv, rfl, rfl, HF⟩ hi K hK
   rcases AnyOrder.up hi [0, 1, 2, 3, 5, 7, 11, 12, 4, 6, 8, 9, 10, 13] rfl with rfl | rfl | rfl | rfl | rfl | rfl | rfl | rfl | rfl | rfl | rfl | rfl | rfl | rfl
   all_goals
    replace hi := AnyOrder.first hi rfl
    repeat (obtain ⟨ha, hi⟩ := hi; first | obtain rfl := ha | clear ha)
    clear hi
    try simp only [sel_true, selv_true] at hK ⊢
   iterate 8
    ·
     refine AnyOrder.wpOp_go rfl (by rfl) ?_
     go_wp2_with fail
     exact ⟨_, _, _, _, _, _, _, _, _, _, _, _, _, _, g, vv, rfl, rfl, HF⟩
   ·
    obtain ⟨rfl, rfl⟩ := HF.out.no (.inl rfl)
    simp only [sel_false] at hK ⊢
    have hbw := HF.out.pre rfl
    have hm1 : V.cell? ⟨mp, 1, none⟩ = _ := (za4 (zab HM.out.map hbw) 1).trans rfl
    refine AnyOrder.wpOp_go rfl (by rfl) ?_
    go_wp2_with fail
    exact ⟨_, _, _, _, _, _, _, _, _, _, _, _, _, _, g, vv, rfl, rfl, ⟨⟨HF.out.ord8, HF.out.ord9, fun h => (by cases h), fun h => (by cases h), HF.out.pre, HF.out.ent, fun h => (by cases h), fun h => (by cases h)⟩⟩⟩
   ·
    obtain ⟨rfl, rfl⟩ := HF.out.no (.inr (.inl rfl))
    simp only [sel_false] at hK ⊢
    have hbw := HF.out.pre rfl
    have hk0 : V.cell? ⟨w.heap.size, 0, none⟩ = _ := (za4 (zab HK.out hbw) 0).trans rfl
    have hk1 : V.cell? ⟨w.heap.size, 1, none⟩ = _ := (za4 (zab HK.out hbw) 1).trans rfl
    refine AnyOrder.wpOp_go rfl (by rfl) ?_
    go_wp2_with fail
    exact ⟨_, _, _, _, _, _, _, _, _, _, _, _, _, _, g, vv, rfl, rfl, ⟨⟨fun _ => rfl, fun _ => rfl, fun h => (by cases h), fun h => (by cases h), HF.out.pre, HF.out.ent, fun h => (by cases h), fun h => (by cases h)⟩⟩⟩
   ·
    refine AnyOrder.wpOp_go rfl (by rfl) ?_
    go_wp2_with fail
    exact ⟨_, _, _, _, _, _, _, _, _, _, _, _, _, _, g, vv, rfl, rfl, ⟨⟨fun _ => rfl, HF.out.ord9, HF.out.ord10, HF.out.ord13, HF.out.pre, HF.out.ent, HF.out.mid, HF.out.fin⟩⟩⟩
   ·
    obtain ⟨rfl, rfl⟩ := HF.out.no (.inr (.inr rfl))
    simp only [sel_false] at hK ⊢
    refine AnyOrder.wpOp_go rfl (by rfl) ?_
    go_wp2_with fail
    exact ⟨_, _, _, _, _, _, _, _, _, _, _, _, _, _, V.heap.size, vv, rfl, rfl, ⟨⟨HF.out.ord8, fun _ => HF.out.ord8 rfl, fun h => (by cases h), fun h => (by cases h), fun _ => za8 (HF.out.pre rfl) ((Below.refl _ V).alloc (Nat.le_refl _) _), fun _ _ => ⟨(HF.out.pre rfl).size, zaj _ _⟩, fun h => (by cases h), fun h => (by cases h)⟩⟩⟩
   ·
    obtain rfl : l13 = false := by cases l13 with | false => rfl | true => cases HF.out.ord13 rfl
    refine AnyOrder.wpOp_go rfl (by rfl) ?_
    go_wp2_with fail
    refine (set_insert HM.out HHF.out HQ.out rfl HW1.out (HF.out.pre rfl) (HF.out.ent rfl rfl)).mono ?_
    rintro e V' ⟨v2, rfl, hmid⟩
    exact hK _ _ ⟨_, _, _, _, _, _, _, _, _, _, _, _, _, _, g, v2, rfl, rfl, ⟨⟨HF.out.ord8, HF.out.ord9, fun _ => ⟨rfl, HF.out.ord9 rfl, rfl⟩, fun h => (by cases h), fun h => (by cases h), fun _ h => (by cases h), fun _ _ => hmid, fun h => (by cases h)⟩⟩⟩
   ·
    obtain ⟨hmr, hmm, hmt⟩ := HF.out.mid rfl rfl
    obtain ⟨Av, cv, rfl⟩ := ownsRow_slice hmr
    have hmap := hmm.trans HM.out.map
    have hm1 : V.cell? ⟨mp, 1, none⟩ = _ := (za4 hmap 1).trans rfl
    have hf1 := za9 hmap 1
    have HF2 := za0.mk (set_store hmr hmap hmt)
    clear hmr hmm hmt hmap
    refine AnyOrder.wpOp_go rfl (by rfl) ?_
    go_wp2_with fail
    exact ⟨_, _, _, _, _, _, _, _, _, _, _, _, _, _, g, (.slice Av (ks.length + 1) cv), rfl, rfl, ⟨⟨fun _ => rfl, fun _ => rfl, fun _ => ⟨rfl, rfl, rfl⟩, fun _ => rfl, fun h => (by cases h), fun _ h => (by cases h), fun _ h => (by cases h), fun _ => HF2.out⟩⟩⟩
  case last =>
   rintro L ac V ⟨l0, l1, l2, l3, l4, l5, l6, l7, l8, l9, l10, l11, l12, l13, g, vv, rfl, rfl, HF⟩ hr
   obtain ⟨rfl, rfl, rfl, rfl, rfl, rfl, rfl, rfl, rfl, rfl, rfl, rfl, rfl, rfl, -⟩ := AnyOrder.alls rfl (by kernel_rfl) hr
   clear hr
   simp only [sel_true, selv_true]
   have HEND : za0 (MapSt base V mp vv (setKs ks d) (setVs ks vs d (.slice Au nu cu)) ∧ Tch (MapBl mp v) w V) := ⟨by
    obtain ⟨hm, hr, ht⟩ := HF.out.fin rfl
    have hl : (setVs ks vs d (.slice Au nu cu)).length = (setKs ks d).length := by
     rw [setKs_len HHF.out]
     unfold setVs
     rw [if_neg (by rw [HHF.out]; decide), List.length_append, List.length_cons, List.length_take, List.length_drop, HM.out.len]
     have := posK_le ks d
     omega
    refine ⟨⟨hm, HM.out.own, by rw [setKs_len HHF.out]; exact hr, hl, by rw [setKs_len HHF.out]; exact HN.out, ?_, setKs_inc HM.out.inc⟩, (Tch.below HB.out).trans ht (fun i _ e => e)⟩
    intro x hx
    unfold setVs at hx
    rw [if_neg (by rw [HHF.out]; decide)] at hx
    rcases List.mem_append.1 hx with hx | hx
    ·
     exact HM.out.one x (List.mem_of_mem_take hx)
    ·
     rcases List.mem_cons.1 hx with rfl | hx
     ·
      rfl
     ·
      exact HM.out.one x (List.mem_of_mem_drop hx)⟩
   go_wp2
   refine bodyPost_ret (results_tmp2 rfl _ _ _) rfl ?_
   exact ⟨_, _, rfl, HEND.out⟩
theorem hasK_iff {ks : List Dot} (h : incB ks = true) (d : Dot) : hasK ks d = true ↔ d ∈ ks := by
 unfold hasK posK
 rw [decide_eq_true_eq]
 induction ks with
 | nil => simp
 | cons y ks ih =>
  obtain ⟨h1, h2⟩ := incB_tail h
  rw [List.takeWhile_cons]
  by_cases hy : dotLt y d = true
  ·
   rw [if_pos hy, List.length_cons, List.getElem?_cons_succ, ih h1, List.mem_cons]
   constructor
   ·
    exact .inr
   ·
    rintro (rfl | h)
    ·
     rw [dotLt_irrefl] at hy; cases hy
    ·
     exact h
  ·
   rw [if_neg hy, List.length_nil, List.getElem?_cons_zero, List.mem_cons]
   constructor
   ·
    intro e; exact .inl (Option.some.inj e).symm
   ·
    rintro (rfl | h)
    ·
     rfl
    ·
     exact absurd (h2 d h) hy
theorem incB_nodup {ks : List Dot} (h : incB ks = true) : ks.Nodup := by
 induction ks with
 | nil => exact List.nodup_nil
 | cons y ks ih =>
  obtain ⟨h1, h2⟩ := incB_tail h
  exact List.nodup_cons.2 ⟨fun hm => (by have := h2 y hm; rw [dotLt_irrefl] at this; cases this), ih h1⟩
/-- How a key is set. -/
theorem set_split {ks : List Dot} {vs : List Value} (hi : incB ks = true) (hl : vs.length = ks.length) (d : Dot) (u : Value) :
  ∃ K1 K2 V1 V2, V1.length = K1.length ∧ setKs ks d = K1 ++ d :: K2 ∧ setVs ks vs d u = V1 ++ u :: V2 ∧ d ∉ K1 ∧ d ∉ K2 ∧
   ((d ∈ ks ∧ ks = K1 ++ d :: K2 ∧ vs = V1 ++ getV ks vs d :: V2) ∨ (d ∉ ks ∧ ks = K1 ++ K2 ∧ vs = V1 ++ V2 ∧ getV ks vs d = .slice none 0 0)) := by
 by_cases hh : hasK ks d = true
 ·
  have hq := hasK_lt hh
  have hk : ks[posK ks d]? = some d := of_decide_eq_true hh
  have hkd : ks = ks.take (posK ks d) ++ d :: ks.drop (posK ks d + 1) := by
   have := (List.getElem?_eq_some_iff.1 hk).2
   conv => lhs; rw [← List.take_append_drop (posK ks d) ks, List.drop_eq_getElem_cons hq, this]
  have hv : vs = vs.take (posK ks d) ++ getV ks vs d :: vs.drop (posK ks d + 1) := by
   have hqv : posK ks d < vs.length := by omega
   unfold getV
   rw [if_pos hh, List.getElem?_eq_getElem hqv]
   conv => lhs; rw [← List.take_append_drop (posK ks d) vs, List.drop_eq_getElem_cons hqv]
   rfl
  have hnd := incB_nodup hi
  rw [hkd] at hnd
  obtain ⟨_, hn2, hn3⟩ := List.nodup_append.1 hnd
  refine ⟨_, _, _, _, ?_, ?_, ?_, ?_, ?_, .inl ⟨(hasK_iff hi d).1 hh, hkd, hv⟩⟩
  ·
   rw [List.length_take, List.length_take, hl]
  ·
   unfold setKs; rw [if_pos hh]; exact hkd
  ·
   unfold setVs; rw [if_pos hh, List.set_eq_take_append_cons_drop, if_pos (by omega)]
  ·
   exact fun hm => hn3 d hm d List.mem_cons_self rfl
  ·
   exact (List.nodup_cons.1 hn2).1
 ·
  have hm : d ∉ ks := fun h => hh ((hasK_iff hi d).2 h)
  refine ⟨ks.take (posK ks d), ks.drop (posK ks d), vs.take (posK ks d), vs.drop (posK ks d), ?_, ?_, ?_, fun h => hm (List.mem_of_mem_take h), fun h => hm (List.mem_of_mem_drop h), .inr ⟨hm, (List.take_append_drop _ _).symm, (List.take_append_drop _ _).symm, ?_⟩⟩
  ·
   rw [List.length_take, List.length_take, hl]
  ·
   unfold setKs; rw [if_neg hh]
  ·
   unfold setVs; rw [if_neg hh]
  ·
   unfold getV; rw [if_neg hh]
/-- Two values don't share a block. -/
def Sep (a b : Value) : Prop := ∀ g, a.ownBlock = some g → b.ownBlock ≠ some g
theorem Sep.symm {a b : Value} (h : Sep a b) : Sep b a := fun g hb ha => h g ha hb
abbrev RN (W : World) (base : Nat) (u : Value) (xs : List Node) : Prop := Kd.R k42 42 W base (fun _ => True) u xs
structure FamSt (base : Nat) (W : World) (mp : Nat) (v : Value) (ks : List Dot) (vs : List Value) (fam : Dot → List Node) : Prop where
 map : MapSt base W mp v ks vs
 rows : ∀ d u, (d, u) ∈ ks.zip vs → RN W base u (fam d)
 sep : vs.Pairwise Sep
 none : ∀ d, d ∉ ks → fam d = []
theorem RN.keep {W V : World} {base : Nat} {u : Value} {xs : List Node} (h : RN W base u xs) (hk : ∀ g, u.ownBlock = some g → V.heap[g]? = W.heap[g]?) : RN V base u xs := by
 have ho := cells_of_R h
 exact R_of_cells (ownsRow_keep ho hk) (fun _ _ => trivial)
theorem RN.block {W : World} {base : Nat} {u : Value} {xs : List Node} (h : RN W base u xs) {g : Nat} (hg : u.ownBlock = some g) : base ≤ g ∧ ∃ cur, W.heap[g]? = some (.cells cur 42 (0, 0)) := by
 rcases (cells_of_R h).2 with ⟨rfl, _⟩ | ⟨g', c, cur, rfl, hb, hcur, _⟩
 ·
  cases hg
 ·
  cases hg; exact ⟨hb, cur, hcur⟩
theorem RN.lt {W : World} {base : Nat} {u : Value} {xs : List Node} (h : RN W base u xs) {g : Nat} (hg : u.ownBlock = some g) : g < W.heap.size := by
 obtain ⟨_, cur, h1⟩ := h.block hg
 exact zae h1
theorem MapSt.not_row {base : Nat} {W : World} {mp : Nat} {v : Value} {ks : List Dot} {vs : List Value} (h : MapSt base W mp v ks vs) {g : Nat} {cur : Array Value} (hg : W.heap[g]? = some (.cells cur 42 (0, 0))) : ¬ MapBl mp v g := by
 rintro (rfl | e)
 ·
  rw [h.map] at hg
  exact absurd (Obj.cells.inj (Option.some.inj hg)).2.1 (by decide)
 ·
  rcases h.row.2 with ⟨rfl, _⟩ | ⟨g', c, cur', rfl, _, hcur, _⟩
  ·
   cases e
  ·
   cases e
   rw [hcur] at hg
   exact absurd (Obj.cells.inj (Option.some.inj hg)).2.1 (by decide)
theorem FamSt.below {base : Nat} {W V : World} {mp : Nat} {v : Value} {ks : List Dot} {vs : List Value} {fam : Dot → List Node} (h : FamSt base W mp v ks vs fam) (hb : Below W.heap.size W V) : FamSt base V mp v ks vs fam :=
 ⟨h.map.below hb, fun d u hm => (h.rows d u hm).keep (fun g hg => hb.block g ((h.rows d u hm).lt hg)), h.sep, h.none⟩
theorem zip_mid {K1 K2 : List Dot} {V1 V2 : List Value} {d : Dot} {u : Value} (hl : V1.length = K1.length) : (K1 ++ d :: K2).zip (V1 ++ u :: V2) = K1.zip V1 ++ (d, u) :: K2.zip V2 := by
 rw [List.zip_append hl.symm]; rfl
theorem FamSt.getR {base : Nat} {W : World} {mp : Nat} {v : Value} {ks : List Dot} {vs : List Value} {fam : Dot → List Node} (h : FamSt base W mp v ks vs fam) (d : Dot) : RN W base (getV ks vs d) (fam d) := by
 obtain ⟨K1, K2, V1, V2, hl, _, _, _, _, (⟨_, hk, hv⟩ | ⟨hm, _, _, hg⟩)⟩ := set_split h.map.inc h.map.len d undef
 ·
  refine h.rows d _ ?_
  have : (d, getV ks vs d) ∈ (K1 ++ d :: K2).zip (V1 ++ getV ks vs d :: V2) := by rw [zip_mid hl]; simp
  rw [← hk, ← hv] at this
  exact this
 ·
  rw [hg, h.none d hm]
  exact Kd.R_nil _ _ _ _ _
/-- One row is put in the place of a key's: the others are as they were. -/
theorem FamSt.set {base : Nat} {W V : World} {mp : Nat} {v v' : Value} {ks : List Dot} {vs : List Value} {fam : Dot → List Node} (h : FamSt base W mp v ks vs fam) {d : Dot} {u : Value} {ys : List Node}
  (hm : MapSt base V mp v' (setKs ks d) (setVs ks vs d u)) (hu : RN V base u ys) (ht : ∀ g, g < W.heap.size → (getV ks vs d).ownBlock ≠ some g → (∃ cur, W.heap[g]? = some (.cells cur 42 (0, 0))) → V.heap[g]? = W.heap[g]?)
  (hub : u.ownBlock = (getV ks vs d).ownBlock ∨ ∃ b, u.ownBlock = some b ∧ W.heap.size ≤ b) : FamSt base V mp v' (setKs ks d) (setVs ks vs d u) (fun e => if e = d then ys else fam e) := by
 obtain ⟨K1, K2, V1, V2, hl, e1, e2, hn1, hn2, hc⟩ := set_split h.map.inc h.map.len d u
 have hrest : ∀ e a, ((e, a) ∈ K1.zip V1 ∨ (e, a) ∈ K2.zip V2) → (e, a) ∈ ks.zip vs ∧ e ≠ d ∧ Sep (getV ks vs d) a := by
  intro e a hea
  have hed : e ≠ d := by
   rintro rfl
   rcases hea with hea | hea
   ·
    exact hn1 (List.of_mem_zip hea).1
   ·
    exact hn2 (List.of_mem_zip hea).1
  rcases hc with ⟨_, hk, hv⟩ | ⟨_, hk, hv, hg⟩
  ·
   refine ⟨?_, hed, ?_⟩
   ·
    rw [hk, hv, zip_mid hl]
    rcases hea with hea | hea
    ·
     exact List.mem_append_left _ hea
    ·
     exact List.mem_append_right _ (List.mem_cons_of_mem _ hea)
   ·
    have hp := h.sep
    rw [hv] at hp
    obtain ⟨_, hp2, hp3⟩ := List.pairwise_append.1 hp
    rcases hea with hea | hea
    ·
     exact (hp3 a (List.of_mem_zip hea).2 _ List.mem_cons_self).symm
    ·
     exact (List.pairwise_cons.1 hp2).1 a (List.of_mem_zip hea).2
  ·
   refine ⟨?_, hed, ?_⟩
   ·
    rw [hk, hv, List.zip_append hl.symm]
    rcases hea with hea | hea
    ·
     exact List.mem_append_left _ hea
    ·
     exact List.mem_append_right _ hea
   ·
    intro g hgg; rw [hg] at hgg; cases hgg
 have hkeep : ∀ e a, ((e, a) ∈ K1.zip V1 ∨ (e, a) ∈ K2.zip V2) → RN V base a (fam e) ∧ Sep u a := by
  intro e a hea
  obtain ⟨h1, _, h3⟩ := hrest e a hea
  have hr := h.rows e a h1
  refine ⟨hr.keep fun g hg => ht g (hr.lt hg) (fun e => h3 g e hg) (hr.block hg).2, fun g hg ha => ?_⟩
  rcases hub with e' | ⟨b, hb, hbb⟩
  ·
   exact h3 g (e' ▸ hg) ha
  ·
   rw [hb] at hg
   have := hr.lt ha
   have := Option.some.inj hg
   omega
 have hzip : ∀ (x : Value) (K : List Dot) (X : List Value), X.length = K.length → x ∈ X → ∃ e, (e, x) ∈ K.zip X := by
  intro x K X hl hx
  obtain ⟨i, hi⟩ := List.getElem?_of_mem hx
  have hil := (List.getElem?_eq_some_iff.1 hi).1
  exact ⟨K[i]'(by omega), List.mem_of_getElem? (i := i) (by rw [List.getElem?_zip_eq_some]; exact ⟨List.getElem?_eq_getElem _, hi⟩)⟩
 have hl2 : V2.length = K2.length := by
  have := hm.len
  rw [e1, e2] at this
  simp only [List.length_append, List.length_cons] at this
  omega
 have hsepV : V1.Pairwise Sep ∧ V2.Pairwise Sep ∧ ∀ a ∈ V1, ∀ b ∈ V2, Sep a b := by
  have hp := h.sep
  rcases hc with ⟨_, _, hv⟩ | ⟨_, _, hv, _⟩
  ·
   rw [hv] at hp
   obtain ⟨p1, p2, p3⟩ := List.pairwise_append.1 hp
   exact ⟨p1, (List.pairwise_cons.1 p2).2, fun a ha b hb => p3 a ha b (List.mem_cons_of_mem _ hb)⟩
  ·
   rw [hv] at hp
   obtain ⟨p1, p2, p3⟩ := List.pairwise_append.1 hp
   exact ⟨p1, p2, p3⟩
 refine ⟨hm, ?_, ?_, ?_⟩
 ·
  intro e a hea
  rw [e1, e2, zip_mid hl] at hea
  rcases List.mem_append.1 hea with hea | hea
  ·
   have := hkeep e a (.inl hea)
   rw [if_neg (hrest e a (.inl hea)).2.1]; exact this.1
  ·
   rcases List.mem_cons.1 hea with he | hea
   ·
    cases he; rw [if_pos rfl]; exact hu
   ·
    rw [if_neg (hrest e a (.inr hea)).2.1]; exact (hkeep e a (.inr hea)).1
 ·
  rw [e2]
  refine List.pairwise_append.2 ⟨hsepV.1, List.pairwise_cons.2 ⟨fun b hb => ?_, hsepV.2.1⟩, fun a ha b hb => ?_⟩
  ·
   obtain ⟨e, he⟩ := hzip b K2 V2 hl2 hb
   exact (hkeep e b (.inr he)).2
  ·
   rcases List.mem_cons.1 hb with rfl | hb
   ·
    obtain ⟨e, he⟩ := hzip a K1 V1 hl ha
    exact (hkeep e a (.inl he)).2.symm
   ·
    exact hsepV.2.2 a ha b hb
 ·
  intro e he
  rw [e1] at he
  have hed : e ≠ d := fun h => he (by rw [h]; simp)
  rw [if_neg hed]
  refine h.none e fun hek => he ?_
  rcases hc with ⟨_, hk, _⟩ | ⟨_, hk, _⟩
  ·
   rwa [hk] at hek
  ·
   rw [hk] at hek
   rcases List.mem_append.1 hek with hek | hek
   ·
    exact List.mem_append_left _ hek
   ·
    exact List.mem_append_right _ (List.mem_cons_of_mem _ hek)
end
section
def idxN : List Node → Nat → Dot → Option Nat
 | [], _, _ => none
 | x :: l, n, d => if d = x.f0 then some n else idxN l (n + 1) d
theorem idxN_lt (l : List Node) (n : Nat) (d : Dot) (k : Nat) (h : idxN l n d = some k) : n ≤ k ∧ k < n + l.length := by
 induction l generalizing n with
 | nil => cases h
 | cons x l ih =>
  rw [idxN] at h
  split at h
  ·
   cases h; simp
  ·
   have := ih _ h; simp; omega
def Inc (l : List Node) : Prop := l.Pairwise fun a b => dotLt a.f0 b.f0 = true
theorem inc_of {l : List Node} (h : incB (l.map (·.f0)) = true) : Inc l := by
 unfold Inc
 induction l with
 | nil => exact List.Pairwise.nil
 | cons x l ih =>
  cases l with
  | nil => exact List.pairwise_singleton _ _
  | cons y l =>
   simp only [List.map_cons, incB, Bool.and_eq_true] at h
   have hr := ih (by simpa using h.2)
   refine List.pairwise_cons.2 ⟨fun z hz => ?_, hr⟩
   rcases List.mem_cons.1 hz with rfl | hz
   ·
    exact h.1
   ·
    exact dotLt_trans h.1 ((List.pairwise_cons.1 hr).1 z hz)
theorem inc_unique {l : List Node} (h : Inc l) {i j : Nat} {x y : Node} (hx : l[i]? = some x) (hy : l[j]? = some y) (e : x.f0 = y.f0) : i = j := by
 obtain ⟨hi, rfl⟩ := List.getElem?_eq_some_iff.1 hx
 obtain ⟨hj, rfl⟩ := List.getElem?_eq_some_iff.1 hy
 rcases Nat.lt_trichotomy i j with hij | hij | hij
 ·
  have := List.pairwise_iff_getElem.1 h i j hi hj hij
  rw [e, dotLt_irrefl] at this; cases this
 ·
  exact hij
 ·
  have := List.pairwise_iff_getElem.1 h j i hj hi hij
  rw [e, dotLt_irrefl] at this; cases this
theorem idxN_some {l : List Node} {n : Nat} {d : Dot} {k : Nat} (h : idxN l n d = some k) : ∃ x, l[k - n]? = some x ∧ x.f0 = d := by
 induction l generalizing n with
 | nil => cases h
 | cons x l ih =>
  rw [idxN] at h
  split at h
  ·
   rename_i e
   cases h
   exact ⟨x, by simp, e.symm⟩
  ·
   obtain ⟨y, hy, e⟩ := ih h
   have := idxN_lt l _ _ k h
   exact ⟨y, by rw [show k - n = (k - (n + 1)) + 1 by omega]; simpa using hy, e⟩
theorem idxN_none {l : List Node} {n : Nat} {d : Dot} (h : idxN l n d = none) : ∀ x ∈ l, x.f0 ≠ d := by
 induction l generalizing n with
 | nil => intro x hx; cases hx
 | cons y l ih =>
  rw [idxN] at h
  split at h
  ·
   cases h
  ·
   rename_i hne
   intro x hx
   rcases List.mem_cons.1 hx with rfl | hx
   ·
    exact fun e => hne e.symm
   ·
    exact ih h x hx
def insB (x : Node) : List Node → List Node
 | [] => [x]
 | y :: r => if nodeLt y x then y :: insB x r else x :: y :: r
/-- The children of a dot, in order. -/
def kids (l : List Node) (d : Dot) : List Node := (l.filter fun x => decide (x.f1 = d)).foldl (fun o x => insB x o) []
theorem nodeLt_irrefl (a : Node) : nodeLt a a = false := by unfold nodeLt; rw [if_pos rfl, dotLt_irrefl]
theorem nodeLt_asymm {a b : Node} (h : nodeLt a b = true) : nodeLt b a = false := by
 unfold nodeLt dotLt at *
 split at h <;> split <;> simp only [decide_eq_true_eq, decide_eq_false_iff_not] at * <;> omega
theorem nodeLt_trans {a b c : Node} (h : nodeLt a b = true) (k : nodeLt b c = true) : nodeLt a c = true := by
 unfold nodeLt dotLt at *
 split at h <;> split at k <;> split <;> simp only [decide_eq_true_eq] at * <;> omega
theorem nodeLt_ntrans {a b c : Node} (h : nodeLt a b = false) (k : nodeLt b c = false) : nodeLt a c = false := by
 unfold nodeLt dotLt at *
 split at h <;> split at k <;> split <;> simp only [decide_eq_false_iff_not] at * <;> omega
theorem nodeLt_total {a b : Node} (h : nodeLt a b = false) (k : nodeLt b a = false) : a.f0 = b.f0 := by
 unfold nodeLt at *
 split at h
 ·
  rename_i e
  rw [if_pos e.symm] at k
  exact dotLt_total k h
 ·
  rename_i e
  rw [if_neg (fun h => e h.symm)] at k
  simp only [decide_eq_false_iff_not] at *
  omega
theorem insB_perm (x : Node) : ∀ l, (insB x l).Perm (x :: l)
 | [] => List.Perm.refl _
 | y :: r => by
  rw [insB]
  split
  ·
   exact ((insB_perm x r).cons y).trans (List.Perm.swap x y r)
  ·
   exact List.Perm.refl _
def SortedN (l : List Node) : Prop := l.Pairwise fun a b => nodeLt b a = false
theorem insB_sorted (x : Node) : ∀ l, SortedN l → SortedN (insB x l)
 | [], _ => List.pairwise_singleton _ _
 | y :: r, h => by
  rw [insB]
  obtain ⟨h1, h2⟩ := List.pairwise_cons.1 h
  split
  ·
   rename_i e
   refine List.pairwise_cons.2 ⟨fun z hz => ?_, insB_sorted x r h2⟩
   rcases List.mem_cons.1 ((insB_perm x r).mem_iff.1 hz) with rfl | hz
   ·
    exact nodeLt_asymm e
   ·
    exact h1 z hz
  ·
   rename_i e
   refine List.pairwise_cons.2 ⟨fun z hz => ?_, h⟩
   rcases List.mem_cons.1 hz with rfl | hz
   ·
    simpa using e
   ·
    exact nodeLt_ntrans (h1 z hz) (by simpa using e)
theorem foldB_perm (f : List Node) : ∀ o, (f.foldl (fun o x => insB x o) o).Perm (f ++ o) := by
 induction f with
 | nil => intro o; exact List.Perm.refl _
 | cons x f ih =>
  intro o
  rw [List.foldl_cons]
  refine (ih _).trans ?_
  exact ((insB_perm x o).append_left f).trans List.perm_middle
theorem foldB_sorted (f : List Node) : ∀ o, SortedN o → SortedN (f.foldl (fun o x => insB x o) o) := by
 induction f with
 | nil => intro o h; exact h
 | cons x f ih => intro o h; rw [List.foldl_cons]; exact ih _ (insB_sorted x o h)
theorem kids_perm (l : List Node) (d : Dot) : (kids l d).Perm (l.filter fun x => decide (x.f1 = d)) := by
 have := foldB_perm (l.filter fun x => decide (x.f1 = d)) []
 rwa [List.append_nil] at this
theorem mem_kids {l : List Node} {d : Dot} {x : Node} : x ∈ kids l d ↔ x ∈ l ∧ x.f1 = d := by
 rw [(kids_perm l d).mem_iff, List.mem_filter]; simp
/-- One list alone is sorted, of those that have the same nodes, where no two have one dot. -/
theorem sorted_unique : ∀ {a b : List Node}, a.Perm b → SortedN a → SortedN b → (∀ x ∈ a, ∀ y ∈ a, x.f0 = y.f0 → x = y) → a = b
 | [], b, hp, _, _, _ => by rw [List.nil_perm.1 hp]
 | x :: a, [], hp, _, _, _ => absurd (List.perm_nil.1 hp) (by simp)
 | x :: a, y :: b, hp, ha, hb, hu => by
  obtain ⟨ha1, ha2⟩ := List.pairwise_cons.1 ha
  obtain ⟨hb1, hb2⟩ := List.pairwise_cons.1 hb
  have hxy : x = y := by
   refine Classical.byContradiction fun hne => ?_
   have hx : x ∈ b := (List.mem_cons.1 (hp.mem_iff.1 List.mem_cons_self)).resolve_left hne
   have hy : y ∈ a := (List.mem_cons.1 (hp.mem_iff.2 List.mem_cons_self)).resolve_left (fun e => hne e.symm)
   exact hne (hu x List.mem_cons_self y (List.mem_cons_of_mem _ hy) (nodeLt_total (hb1 x hx) (ha1 y hy)))
  subst hxy
  rw [sorted_unique (List.Perm.cons_inv hp) ha2 hb2 (fun u hu' v hv => hu u (List.mem_cons_of_mem _ hu') v (List.mem_cons_of_mem _ hv))]
/-- All below a dot, with their depths; n: at most so deep. -/
def belowN (l : List Node) : Nat → Nat → Dot → List (Nat × Node)
 | 0, _, _ => []
 | n + 1, dep, d => (kids l d).flatMap fun x => (dep, x) :: belowN l n (dep + 1) x.f0
/-- Below a dot there are at most so many generations. -/
def Low (l : List Node) : Nat → Dot → Prop
 | 0, d => kids l d = []
 | n + 1, d => ∀ x ∈ kids l d, Low l n x.f0
theorem Low.succ {l : List Node} : ∀ {n : Nat} {d : Dot}, Low l n d → Low l (n + 1) d
 | 0, d, h => fun x hx => by rw [show kids l d = [] from h] at hx; cases hx
 | n + 1, d, h => fun x hx => Low.succ (h x hx)
theorem Low.mono {l : List Node} {n m : Nat} {d : Dot} (h : Low l n d) (hm : n ≤ m) : Low l m d := by
 induction hm with
 | refl => exact h
 | step _ ih => exact ih.succ
theorem flatMap_same {α β : Type} {f g : α → List β} : ∀ {l : List α}, (∀ x ∈ l, f x = g x) → l.flatMap f = l.flatMap g
 | [], _ => rfl
 | x :: l, h => by rw [List.flatMap_cons, List.flatMap_cons, h x List.mem_cons_self, flatMap_same fun y hy => h y (List.mem_cons_of_mem _ hy)]
theorem belowN_succ {l : List Node} : ∀ {n : Nat} {d : Dot} (dep : Nat), Low l n d → belowN l (n + 1) dep d = belowN l (n + 2) dep d
 | 0, d, dep, h => by rw [belowN, belowN, show kids l d = [] from h]; rfl
 | n + 1, d, dep, h => by
  rw [belowN, belowN]
  exact flatMap_same fun x hx => by rw [belowN_succ (dep + 1) (h x hx)]
theorem belowN_any {l : List Node} {n m : Nat} {d : Dot} (dep : Nat) (h : Low l n d) (hm : n < m) : belowN l m dep d = belowN l (n + 1) dep d := by
 obtain ⟨q, rfl⟩ : ∃ q, m = n + 1 + q := ⟨m - (n + 1), by omega⟩
 induction q with
 | zero => rfl
 | succ q ih => rw [← ih (by omega), show n + 1 + (q + 1) = (n + q) + 2 by omega, ← belowN_succ dep (h.mono (by omega)), show n + q + 1 = n + 1 + q by omega]
/-- The way from the root to a dot, the last node first. -/
inductive Path (l : List Node) : Dot → List Node → Prop
 | root : Path l ⟨0, 0⟩ []
 | step (d : Dot) (U : List Node) (x : Node) : Path l d U → x ∈ l → x.f1 = d → Path l x.f0 (x :: U)
structure Store (l : List Node) : Prop where
 ok : ∀ x ∈ l, nodeOk x = true
 inc : Inc l
theorem store_of {l : List Node} (h : storeOk l = true) : Store l := by
 unfold storeOk at h
 rw [Bool.and_eq_true, List.all_eq_true] at h
 exact ⟨h.1, inc_of h.2⟩
theorem inc_eq {l : List Node} (h : Inc l) {x y : Node} (hx : x ∈ l) (hy : y ∈ l) (e : x.f0 = y.f0) : x = y := by
 obtain ⟨i, hi⟩ := List.getElem?_of_mem hx
 obtain ⟨j, hj⟩ := List.getElem?_of_mem hy
 obtain rfl := inc_unique h hi hj e
 rw [hi] at hj; exact Option.some.inj hj
theorem Store.not_root {l : List Node} (h : Store l) {x : Node} (hx : x ∈ l) : x.f0 ≠ ⟨0, 0⟩ := fun e => by
 have := h.ok x hx
 unfold nodeOk dotOk at this
 simp only [decide_eq_true_eq] at this
 rw [e] at this
 simp at this
theorem Path.unique {l : List Node} (hs : Store l) {d : Dot} {U : List Node} (h : Path l d U) : ∀ {V : List Node}, Path l d V → U = V := by
 induction h with
 | root =>
  intro V k
  generalize hd : (⟨0, 0⟩ : Dot) = d at k
  cases k with
  | root => rfl
  | step d V x k hx e => exact absurd hd.symm (hs.not_root hx)
 | step d U x _ hx e ih =>
  intro V k
  generalize hd : x.f0 = d' at k
  cases k with
  | root => exact absurd hd (hs.not_root hx)
  | step d2 V y k hy e2 =>
   obtain rfl := inc_eq hs.inc hx hy hd
   subst e e2
   rw [ih k]
theorem Path.mem {l : List Node} {d : Dot} {U : List Node} (h : Path l d U) : ∀ x ∈ U, x ∈ l := by
 induction h with
 | root => intro x hx; cases hx
 | step d U x _ hx e ih =>
  intro y hy
  rcases List.mem_cons.1 hy with rfl | hy
  ·
   exact hx
  ·
   exact ih y hy
theorem Path.part {l : List Node} {d : Dot} {U : List Node} (h : Path l d U) : ∀ x ∈ U, ∃ A B, U = A ++ x :: B ∧ Path l x.f0 (x :: B) := by
 induction h with
 | root => intro x hx; cases hx
 | step d U x h hx e ih =>
  intro y hy
  rcases List.mem_cons.1 hy with rfl | hy
  ·
   exact ⟨[], U, rfl, .step d U y h hx e⟩
  ·
   obtain ⟨A, B, rfl, hp⟩ := ih y hy
   exact ⟨x :: A, B, rfl, hp⟩
theorem Path.nodup {l : List Node} (hs : Store l) {d : Dot} {U : List Node} (h : Path l d U) : U.Nodup := by
 induction h with
 | root => exact List.nodup_nil
 | step d U x h hx e ih =>
  refine List.nodup_cons.2 ⟨fun hm => ?_, ih⟩
  obtain ⟨A, B, rfl, hp⟩ := h.part x hm
  have := congrArg List.length (hp.unique hs (.step d _ x h hx e))
  simp at this
  omega
theorem nodup_le {α : Type} [DecidableEq α] : ∀ {a l : List α}, a.Nodup → (∀ x ∈ a, x ∈ l) → a.length ≤ l.length
 | [], _, _, _ => Nat.zero_le _
 | x :: a, l, h, hs => by
  obtain ⟨h1, h2⟩ := List.nodup_cons.1 h
  have hx := hs x List.mem_cons_self
  have := nodup_le (l := l.erase x) h2 fun y hy => (List.mem_erase_of_ne (fun e => h1 (by rw [← e]; exact hy))).2 (hs y (List.mem_cons_of_mem _ hy))
  have hl := List.length_erase_of_mem hx
  have : 0 < l.length := List.length_pos_of_mem hx
  simp only [List.length_cons]
  omega
theorem Path.le {l : List Node} (hs : Store l) {d : Dot} {U : List Node} (h : Path l d U) : U.length ≤ l.length := nodup_le (h.nodup hs) h.mem
theorem Path.low {l : List Node} (hs : Store l) : ∀ (n : Nat) {d : Dot} {U : List Node}, Path l d U → U.length + n = l.length → Low l n d
 | 0, d, U, h, e => by
  show kids l d = []
  refine List.eq_nil_iff_forall_not_mem.2 fun x hx => ?_
  obtain ⟨hx, e2⟩ := mem_kids.1 hx
  have := (Path.step d U x h hx e2).le hs
  simp at this; omega
 | n + 1, d, U, h, e => fun x hx => by
  obtain ⟨hx, e2⟩ := mem_kids.1 hx
  exact Path.low hs n (Path.step d U x h hx e2) (by simp; omega)
theorem Path.lows {l : List Node} (hs : Store l) {d : Dot} {U : List Node} (h : Path l d U) : Low l (l.length - U.length) d := h.low hs _ (by have := h.le hs; omega)
/-- All that are reached, in the order of the tree, with their depths. -/
def belowOf (l : List Node) (dep : Nat) (d : Dot) : List (Nat × Node) := belowN l (l.length + 1) dep d
def ordOf (l : List Node) : List (Nat × Node) := belowOf l 0 ⟨0, 0⟩
theorem belowOf_kids {l : List Node} (hs : Store l) {d : Dot} {U : List Node} (h : Path l d U) (dep : Nat) : belowOf l dep d = (kids l d).flatMap fun x => (dep, x) :: belowOf l (dep + 1) x.f0 := by
 unfold belowOf
 rw [belowN]
 refine flatMap_same fun x hx => ?_
 obtain ⟨hx, e2⟩ := mem_kids.1 hx
 have hp := Path.step d U x h hx e2
 have h1 := hp.lows hs
 have hl := hp.le hs
 simp only [List.length_cons] at h1 hl
 rw [belowN_any (dep + 1) h1 (by omega), ← belowN_any (dep + 1) h1 (m := l.length + 1) (by omega)]
/-- What is still to come, where the stack holds these. -/
def restOf (l : List Node) (todo : List (Nat × Node)) : List (Nat × Node) := todo.flatMap fun p => p :: belowOf l (p.1 + 1) p.2.f0
theorem restOf_cons {l : List Node} (hs : Store l) {p : Nat × Node} {todo : List (Nat × Node)} {U : List Node} (h : Path l p.2.f0 U) :
  restOf l (p :: todo) = p :: restOf l ((kids l p.2.f0).map (fun y => (p.1 + 1, y)) ++ todo) := by
 unfold restOf
 rw [List.flatMap_cons, List.flatMap_append, List.flatMap_map, ← belowOf_kids hs h (p.1 + 1)]
 rfl
theorem restOf_kids {l : List Node} (hs : Store l) {d : Dot} {U : List Node} (h : Path l d U) (dep : Nat) : restOf l ((kids l d).map fun y => (dep, y)) = belowOf l dep d := by
 unfold restOf
 rw [List.flatMap_map, belowOf_kids hs h dep]
theorem restOf_le (l : List Node) : ∀ todo, todo.length ≤ (restOf l todo).length
 | [] => Nat.le_refl _
 | p :: todo => by
  have := restOf_le l todo
  unfold restOf at *
  rw [List.flatMap_cons, List.length_append]
  simp only [List.length_cons]; omega
/-- Where a node stands among those below a dot. -/
theorem mem_belowN {l : List Node} (hs : Store l) : ∀ {n dep : Nat} {d : Dot} {U : List Node} {p : Nat × Node}, Path l d U → U.length = dep → p ∈ belowN l n dep d →
  ∃ x P V, x ∈ kids l d ∧ Path l p.2.f0 (p.2 :: V) ∧ V.length = p.1 ∧ p.2 :: V = P ++ x :: U
 | 0, dep, d, U, p, _, _, hm => by cases hm
 | n + 1, dep, d, U, p, h, hd, hm => by
  rw [belowN] at hm
  obtain ⟨x, hx, hm⟩ := List.mem_flatMap.1 hm
  obtain ⟨hxl, e2⟩ := mem_kids.1 hx
  have hp := Path.step d U x h hxl e2
  rcases List.mem_cons.1 hm with rfl | hm
  ·
   exact ⟨x, [], U, hx, hp, hd, rfl⟩
  ·
   obtain ⟨y, P, V, _, h1, h2, h3⟩ := mem_belowN hs hp (by simp only [List.length_cons]; omega) hm
   exact ⟨x, P ++ [y], V, hx, h1, h2, by rw [h3]; simp⟩
theorem mem_belowN_dep {l : List Node} (hs : Store l) {n dep : Nat} {d : Dot} {U : List Node} {p : Nat × Node} (h : Path l d U) (hd : U.length = dep) (hm : p ∈ belowN l n dep d) : dep ≤ p.1 := by
 obtain ⟨x, P, V, _, _, h2, h3⟩ := mem_belowN hs h hd hm
 have := congrArg List.length h3
 simp at this
 omega
theorem nodup_flatMap {α β : Type} {f : α → List β} : ∀ {l : List α}, l.Nodup → (∀ x ∈ l, (f x).Nodup) → (∀ x ∈ l, ∀ y ∈ l, ∀ b, b ∈ f x → b ∈ f y → x = y) → (l.flatMap f).Nodup
 | [], _, _, _ => List.nodup_nil
 | x :: l, h, h1, h2 => by
  obtain ⟨hx, hl⟩ := List.nodup_cons.1 h
  rw [List.flatMap_cons, List.nodup_append]
  refine ⟨h1 x List.mem_cons_self, nodup_flatMap hl (fun y hy => h1 y (List.mem_cons_of_mem _ hy)) (fun y hy z hz b => h2 y (List.mem_cons_of_mem _ hy) z (List.mem_cons_of_mem _ hz) b), fun a ha b hb e => ?_⟩
  subst e
  obtain ⟨y, hy, hb⟩ := List.mem_flatMap.1 hb
  have := h2 x List.mem_cons_self y (List.mem_cons_of_mem _ hy) a ha hb
  subst this
  exact hx hy
theorem inc_nodup {l : List Node} (h : Inc l) : l.Nodup := by
 refine List.Pairwise.imp (fun {a b} hab e => ?_) h
 subst e
 rw [dotLt_irrefl] at hab; cases hab
theorem kids_nodup {l : List Node} (hs : Store l) (d : Dot) : (kids l d).Nodup := (kids_perm l d).nodup_iff.2 ((inc_nodup hs.inc).filter _)
theorem belowN_nodup {l : List Node} (hs : Store l) : ∀ {n dep : Nat} {d : Dot} {U : List Node}, Path l d U → U.length = dep → (belowN l n dep d).Nodup
 | 0, _, _, _, _, _ => List.nodup_nil
 | n + 1, dep, d, U, h, hd => by
  rw [belowN]
  have hst : ∀ x ∈ kids l d, Path l x.f0 (x :: U) := fun x hx => by obtain ⟨hxl, e2⟩ := mem_kids.1 hx; exact Path.step d U x h hxl e2
  have hwhere : ∀ x ∈ kids l d, ∀ b, b ∈ (dep, x) :: belowN l n (dep + 1) x.f0 → ∃ P V, Path l b.2.f0 (b.2 :: V) ∧ b.2 :: V = P ++ x :: U := by
   intro x hx b hb
   rcases List.mem_cons.1 hb with rfl | hb
   ·
    exact ⟨[], U, hst x hx, rfl⟩
   ·
    obtain ⟨y, P, V, _, h1, h2, h3⟩ := mem_belowN hs (hst x hx) (by simp only [List.length_cons]; omega) hb
    exact ⟨P ++ [y], V, h1, by rw [h3]; simp⟩
  refine nodup_flatMap (kids_nodup hs d) (fun x hx => ?_) (fun x hx y hy b hb1 hb2 => ?_)
  ·
   refine List.nodup_cons.2 ⟨fun hm => ?_, belowN_nodup hs (hst x hx) (by simp only [List.length_cons]; omega)⟩
   have := mem_belowN_dep hs (hst x hx) (by simp only [List.length_cons]; omega) hm
   simp at this
   omega
  ·
   obtain ⟨P1, V1, hp1, e1⟩ := hwhere x hx b hb1
   obtain ⟨P2, V2, hp2, e2⟩ := hwhere y hy b hb2
   have hv := hp1.unique hs hp2
   rw [e1, e2] at hv
   have := List.append_inj' hv (by simp)
   exact (List.cons.inj this.2).1
/-- No node is reached twice. -/
theorem ord_nodup {l : List Node} (hs : Store l) : ((ordOf l).map (·.2)).Nodup := by
 have hn := belowN_nodup hs (n := l.length + 1) (Path.root (l := l)) rfl
 refine List.Pairwise.map (R := fun a b => a ≠ b ∧ a ∈ ordOf l ∧ b ∈ ordOf l) _ (fun a b ⟨hab, ha, hb⟩ e => ?_) ?_
 ·
  obtain ⟨_, _, V1, _, h1, h2, _⟩ := mem_belowN hs Path.root rfl ha
  obtain ⟨_, _, V2, _, k1, k2, _⟩ := mem_belowN hs Path.root rfl hb
  have e' : a.2 = b.2 := e
  rw [e'] at h1
  have := (List.cons.inj (h1.unique hs k1)).2
  subst this
  exact hab (Prod.ext (by omega) e')
 ·
  exact List.Pairwise.imp_of_mem (fun ha hb h => ⟨h, ha, hb⟩) hn
theorem mem_ord {l : List Node} (hs : Store l) {p : Nat × Node} (h : p ∈ ordOf l) : ∃ V, Path l p.2.f0 (p.2 :: V) ∧ V.length = p.1 := by
 obtain ⟨_, _, V, _, h1, h2, _⟩ := mem_belowN hs Path.root rfl h
 exact ⟨V, h1, h2⟩
theorem ord_mem {l : List Node} (hs : Store l) {p : Nat × Node} (h : p ∈ ordOf l) : p.2 ∈ l := by
 obtain ⟨V, h1, _⟩ := mem_ord hs h
 exact h1.mem _ List.mem_cons_self
theorem ord_le {l : List Node} (hs : Store l) : (ordOf l).length ≤ l.length := by
 have := nodup_le (ord_nodup hs) (l := l) fun x hx => by obtain ⟨p, hp, rfl⟩ := List.mem_map.1 hx; exact ord_mem hs hp
 simpa using this
theorem belowOf_step {l : List Node} (hs : Store l) : ∀ (n : Nat) {d : Dot} {U : List Node} {p : Nat × Node}, Path l d U → U.length + n = l.length → p ∈ belowOf l U.length d → ∀ y ∈ kids l p.2.f0, (p.1 + 1, y) ∈ belowOf l U.length d := by
 intro n
 induction n with
 | zero =>
  intro d U p h hn hm y hy
  have := h.low hs 0 hn
  rw [belowOf_kids hs h, show kids l d = [] from this] at hm
  cases hm
 | succ n ih =>
  intro d U p h hn hm y hy
  rw [belowOf_kids hs h] at hm ⊢
  obtain ⟨x, hx, hm⟩ := List.mem_flatMap.1 hm
  refine List.mem_flatMap.2 ⟨x, hx, List.mem_cons_of_mem _ ?_⟩
  obtain ⟨hxl, e2⟩ := mem_kids.1 hx
  have hp := Path.step d U x h hxl e2
  rcases List.mem_cons.1 hm with rfl | hm
  ·
   rw [belowOf_kids hs hp]
   exact List.mem_flatMap.2 ⟨y, hy, List.mem_cons_self⟩
  ·
   exact ih hp (by simp only [List.length_cons]; omega) hm y hy
theorem path_mem {l : List Node} (hs : Store l) {d : Dot} {U : List Node} (h : Path l d U) : ∀ x V, U = x :: V → (V.length, x) ∈ ordOf l := by
 induction h with
 | root => intro x V e; cases e
 | step d U x h hx e ih =>
  intro y V e2
  obtain ⟨rfl, rfl⟩ := List.cons.inj e2
  cases h with
  | root =>
   show (0, x) ∈ belowOf l 0 ⟨0, 0⟩
   rw [belowOf_kids hs Path.root]
   exact List.mem_flatMap.2 ⟨x, mem_kids.2 ⟨hx, e⟩, List.mem_cons_self⟩
  | step d V z h hz e3 => exact belowOf_step hs l.length Path.root (by simp) (ih z V rfl) x (mem_kids.2 ⟨hx, e⟩)
theorem dotRoot_iff {d : Dot} : dotRoot d = true ↔ d = ⟨0, 0⟩ := by unfold dotRoot; rw [Dot.ext_iff']; simp
end
end Go.Proofs.YtefejajofmpjdaaGreat.PWalk
end
section
namespace Go.Proofs
open Go.Shelf
section
def Tryz.sortNode_ren : Go.Shelf.Ren := ⟨fun | 6 => 93 | 15 => 58 | 14 => 57 | 28 => 83 | 29 => 84 | 20 => 75 | 21 => 76 | 22 => 77 | 23 => 78 | 24 => 79 | 25 => 80 | 26 => 81 | 27 => 82 | 46 => 97 | 47 => 98 | 48 => 99 | 49 => 100 | 50 => 101 | 57 => 107 | n => n, fun | 22 => 22 | 24 => 42 | 25 => 85 | 3 => 3 | 39 => 102 | 0 => 0 | 53 => 133 | 55 => 135 | 4 => 4 | 46 => 126 | 45 => 125 | 50 => 130 | 5 => 5 | 9 => 9 | 66 => 151 | 70 => 155 | 76 => 166 | 77 => 167 | n => n, fun | n => n⟩
theorem Tryz.sortNode : Go.Proofs.SlLaysF0.n6 Tryz.prog Tryz.sortNode_ren := {
 mixed := by kernel_rfl
 f6 := ⟨Tryz.f93.name, by decide, Tryz.func93.trans (congrArg some (by kernel_rfl))⟩
 f14 := ⟨Tryz.f57.name, by decide, Tryz.func57.trans (congrArg some (by kernel_rfl))⟩
 f15 := Tryz.func58.trans (congrArg some (by kernel_rfl))
 f20 := ⟨Tryz.f75.name, by decide, Tryz.func75.trans (congrArg some (by kernel_rfl))⟩
 f21 := ⟨Tryz.f76.name, by decide, Tryz.func76.trans (congrArg some (by kernel_rfl))⟩
 f22 := ⟨Tryz.f77.name, by decide, Tryz.func77.trans (congrArg some (by kernel_rfl))⟩
 f23 := ⟨Tryz.f78.name, by decide, Tryz.func78.trans (congrArg some (by kernel_rfl))⟩
 f24 := ⟨Tryz.f79.name, by decide, Tryz.func79.trans (congrArg some (by kernel_rfl))⟩
 f25 := ⟨Tryz.f80.name, by decide, Tryz.func80.trans (congrArg some (by kernel_rfl))⟩
 f26 := ⟨Tryz.f81.name, by decide, Tryz.func81.trans (congrArg some (by kernel_rfl))⟩
 f27 := ⟨Tryz.f82.name, by decide, Tryz.func82.trans (congrArg some (by kernel_rfl))⟩
 f28 := Tryz.func83.trans (congrArg some (by kernel_rfl))
 f29 := Tryz.func84.trans (congrArg some (by kernel_rfl))
 f46 := ⟨Tryz.f97.name, by decide, Tryz.func97.trans (congrArg some (by kernel_rfl))⟩
 f47 := Tryz.func98.trans (congrArg some (by kernel_rfl))
 f48 := Tryz.func99.trans (congrArg some (by kernel_rfl))
 f49 := ⟨Tryz.f100.name, by decide, Tryz.func100.trans (congrArg some (by kernel_rfl))⟩
 f50 := ⟨Tryz.f101.name, by decide, Tryz.func101.trans (congrArg some (by kernel_rfl))⟩
 f57 := ⟨Tryz.f107.name, by decide, Tryz.func107.trans (congrArg some (by kernel_rfl))⟩
 t0 := Tryz.underlying0
 a0 := Tryz.isAgg0
 z0 := Tryz.sizeOf0
 v0 := Tryz.zeroValue0
 t3 := Tryz.underlying3
 a3 := Tryz.isAgg3
 z3 := Tryz.sizeOf3
 v3 := Tryz.zeroValue3
 t4 := Tryz.underlying4
 a4 := Tryz.isAgg4
 z4 := Tryz.sizeOf4
 v4 := Tryz.zeroValue4
 t5 := Tryz.underlying5
 a5 := Tryz.isAgg5
 z5 := Tryz.sizeOf5
 v5 := Tryz.zeroValue5
 t9 := Tryz.underlying9
 a9 := Tryz.isAgg9
 z9 := Tryz.sizeOf9
 v9 := Tryz.zeroValue9
 t22 := Tryz.underlying22
 a22 := Tryz.isAgg22
 z22 := Tryz.sizeOf22
 v22 := Tryz.zeroValue22
 t25 := Tryz.underlying85
 a25 := Tryz.isAgg85
 z25 := Tryz.sizeOf85
 v25 := Tryz.zeroValue85
 t39 := Tryz.underlying102
 a39 := Tryz.isAgg102
 z39 := Tryz.sizeOf102
 v39 := Tryz.zeroValue102
 t45 := Tryz.underlying125
 a45 := Tryz.isAgg125
 z45 := Tryz.sizeOf125
 v45 := Tryz.zeroValue125
 t46 := Tryz.underlying126
 a46 := Tryz.isAgg126
 z46 := Tryz.sizeOf126
 v46 := Tryz.zeroValue126
 t50 := Tryz.underlying130
 a50 := Tryz.isAgg130
 z50 := Tryz.sizeOf130
 v50 := Tryz.zeroValue130
 t53 := Tryz.underlying133
 a53 := Tryz.isAgg133
 z53 := Tryz.sizeOf133
 v53 := Tryz.zeroValue133
 t55 := Tryz.underlying135
 a55 := Tryz.isAgg135
 z55 := Tryz.sizeOf135
 v55 := Tryz.zeroValue135
 t66 := Tryz.underlying151
 a66 := Tryz.isAgg151
 z66 := Tryz.sizeOf151
 v66 := Tryz.zeroValue151
 t70 := Tryz.underlying155
 a70 := Tryz.isAgg155
 z70 := Tryz.sizeOf155
 v70 := Tryz.zeroValue155
 t76 := Tryz.underlying166
 a76 := Tryz.isAgg166
 z76 := Tryz.sizeOf166
 v76 := Tryz.zeroValue166
 t77 := Tryz.underlying167
 a77 := Tryz.isAgg167
 z77 := Tryz.sizeOf167
 v77 := Tryz.zeroValue167 }
end
end Go.Proofs
end
section
namespace Go.Proofs.YtefejajofmpjdaaGreat.PWalk
open Go.RowKit Go.Proofs.YtefejajofmpjdaaGreatW.PrintWords Go.Proofs.YtefejajofmpjdaaGreatW.PrintLast Go.Proofs.YtefejajofmpjdaaGreatW.PrintMore
set_option linter.unusedVariables false
set_option linter.unusedSimpArgs false
open Go.Shelf
attribute [local go_sem] Oper.semAt_some
set_option maxHeartbeats 1000000 in
set_option maxRecDepth 100000 in
section
theorem cloneE_call (base : Nat) (v : Value) (n : Nat) (cs : List Value) (w : World) (ho : w.ownsRow base 162 3 v n cs) (hcs1 : ∀ u ∈ cs, u.oneCell' = true) (hn : n ≤ 1000000) :
  Calls Tryz.prog 112 #[v] w fun e w' => ∃ v', e = .returned v' ∧ w'.ownsRow w.heap.size 162 3 v' n cs ∧ Below w.heap.size w w' := by
 obtain ⟨hcl, ho⟩ := ho
 rcases ho with ⟨rfl, rfl⟩ | ⟨g, cap, cur, rfl, hbg, hcur, hle, hmx, hsz, htk⟩
 ·
  have hq := fun (W : World) => Lib.run_eql_slice_nil_nil (P := Tryz.prog) W 0 0 Tryz.underlying157
  have hcs : cs = [] := List.length_eq_zero_iff.1 (by omega)
  subst hcs
  go_enter Tryz.func112, Tryz.ntmps112
  go_wp2
  go_ret
  exact ⟨_, rfl, ⟨rfl, .inl ⟨rfl, rfl⟩⟩, Below.refl _ _⟩
 ·
  have hq := fun (W : World) => Lib.run_eql_slice_some_nil (P := Tryz.prog) W ⟨g, 0, none⟩ n cap Tryz.underlying157
  obtain ⟨i0, hi, hz0, hz1, hz2⟩ := info_parts infoE
  have hz := Tryz.zeroValue162
  have HCL := za0.mk hcl
  have H1 := za0.mk hcs1
  have HN := za0.mk hn
  have HCELL : za0 (∀ j u, cs[j]? = some u → w.cell? ((⟨g, 0, none⟩ : Addr).add j) = some u) := ⟨fun j u hj => by
   rw [add_lit, Nat.zero_add, za4 hcur, ← Array.getElem?_toList]
   rw [← htk, List.getElem?_take] at hj
   split at hj
   ·
    exact hj
   ·
    cases hj⟩
  clear hcur htk hsz hcl hcs1 hn
  go_enter Tryz.func112, Tryz.ntmps112
  go_wp2_with (at_builtin; go_loud (refine wpList_append_own _ rfl (.tmp 5) (.tmp 6) 157 rfl w.heap.size 162 i0 _ 3 40 Tryz.underlying157 hi hz0 hz1 hz2 rfl (by decide) _ 0 [] rfl (World.ownsRow_lit w #[] 0 (Nat.le_refl _) (by decide) rfl) ⟨g, 0, none⟩ n cap cs rfl HCL.out ?c1 H1.out ?c2 ?c3 ?c4 ?_); (case c1 => exact fun j u hu => zal (za2 (Below.refl _ _) _) (HCELL.out j u hu)); (case c2 => unfold maxLen; have := HN.out; omega); (case c3 => have := HN.out; omega); (case c4 => simp); intro v' w' ho hg hn)
  go_ret
  exact ⟨_, rfl, by simpa using ho, (za2 (Below.refl _ _) _).grown hg (by simp) (fun k e => by cases (show some w.heap.size = some k from e); exact Nat.le_refl _)⟩
/-- The entries that an iterator goes over, in a row of their own. -/
structure OverSt (base : Nat) (W : World) (bc : Nat) (v : Value) (ks : List Dot) (vs : List Value) : Prop where
 box : W.heap[bc]? = some (.cells #[v] 157 (0, 0))
 own : base ≤ bc
 row : W.ownsRow base 162 3 v ks.length (entsOf ks vs)
 len : vs.length = ks.length
 small : ks.length ≤ 1000000
 one : ∀ v ∈ vs, v.oneCell' = true
theorem OverSt.ents {base : Nat} {W : World} {bc : Nat} {v : Value} {ks : List Dot} {vs : List Value} (h : OverSt base W bc v ks vs) : ∃ A c, v = .slice A ks.length c ∧ Ents W A ks.length ks vs := by
 rcases h.row.2 with ⟨rfl, h0⟩ | ⟨g, c, cur, rfl, hbg, hcur, hle, hmx, hsz, htk⟩
 ·
  have hks : ks = [] := List.length_eq_zero_iff.1 h0
  subst hks
  exact ⟨none, 0, rfl, ⟨rfl, h.len, by simp, h.one, fun i k v hk => by simp at hk⟩⟩
 ·
  refine ⟨_, c, rfl, ⟨rfl, h.len, h.small, h.one, fun i k v hk hv => ⟨g, rfl, ?_⟩⟩⟩
  have hi : i < ks.length := (List.getElem?_eq_some_iff.1 hk).1
  have hc : ∀ j, j < 3 → W.cell? ⟨g, i * 3 + j, none⟩ = (entCells k v)[j]? := fun j hj => by
   rw [za4 hcur, ← Array.getElem?_toList, ← entsOf_get hk hv j hj, ← htk, List.getElem?_take, if_pos (by omega)]
  exact ⟨hc 0 (by decide), hc 1 (by decide), hc 2 (by decide)⟩
theorem OverSt.keep {base : Nat} {W V : World} {bc : Nat} {v : Value} {ks : List Dot} {vs : List Value} (h : OverSt base W bc v ks vs) (hm : V.heap[bc]? = W.heap[bc]?) (hv : ∀ g, v.ownBlock = some g → V.heap[g]? = W.heap[g]?) : OverSt base V bc v ks vs :=
 ⟨hm.trans h.box, h.own, ownsRow_keep h.row hv, h.len, h.small, h.one⟩
set_option maxHeartbeats 1000000 in
set_option maxRecDepth 100000 in
theorem over_call (base : Nat) (v : Value) (ks : List Dot) (vs : List Value) (w : World) (ho : w.ownsRow base 162 3 v ks.length (entsOf ks vs)) (hl : vs.length = ks.length) (hn : ks.length ≤ 1000000) (h1 : ∀ v ∈ vs, v.oneCell' = true) :
  Calls Tryz.prog 105 #[v] w fun e w' => ∃ bc v', e = .returned (.func (.func 113) #[] #[.pointer (some ⟨bc, 0, none⟩)]) ∧ OverSt w.heap.size w' bc v' ks vs ∧ Below w.heap.size w w' := by
 obtain ⟨A, c, rfl⟩ := ownsRow_slice ho
 have hb := (Gr.alloc w (.cells #[.slice A ks.length c] 157 (0, 0))).below
 have hlt : ∀ g, (Value.slice A ks.length c).ownBlock = some g → g < w.heap.size := fun g hg => by
  rcases ho.2 with ⟨e, _⟩ | ⟨g', c', cur, e, _, hcur, _⟩
  ·
   rw [e] at hg; cases hg
  ·
   rw [e] at hg; cases hg; exact zae hcur
 have HO : za0 ((w.alloc (.cells #[.slice A ks.length c] 157 (0, 0))).ownsRow base 162 3 (.slice A ks.length c) ks.length (entsOf ks vs)) := ⟨ownsRow_keep ho (fun g hg => hb.block g (hlt g hg))⟩
 have HBX : za0 ((w.alloc (.cells #[.slice A ks.length c] 157 (0, 0))).heap[w.heap.size]? = some (.cells #[.slice A ks.length c] 157 (0, 0))) := ⟨zaj _ _⟩
 have HB := za0.mk hb
 have HL := za0.mk hl
 have HN := za0.mk hn
 have H1 := za0.mk h1
 clear ho hb hlt hl hn h1
 go_enter Tryz.func105, Tryz.ntmps105
 go_wp2_with fail
 refine (cloneE_call base _ ks.length (entsOf ks vs) _ HO.out (entsOf_one H1.out) HN.out).mono ?_
 rintro e w1 ⟨v', rfl, ho, hb⟩
 obtain ⟨A', c', rfl⟩ := ownsRow_slice ho
 have hbx := zab HBX.out hb
 have hf := za9 hbx 0
 have hc0 : w1.cell? ⟨w.heap.size, 0, none⟩ = _ := (za4 hbx 0).trans rfl
 have HEND : za0 (OverSt w.heap.size (w1.setCell ⟨w.heap.size, 0, none⟩ (.slice A' ks.length c')) w.heap.size (.slice A' ks.length c') ks vs ∧ Below w.heap.size w (w1.setCell ⟨w.heap.size, 0, none⟩ (.slice A' ks.length c'))) := ⟨by
  have hgr : w1.grownBy (w1.setCell ⟨w.heap.size, 0, none⟩ (.slice A' ks.length c')) (some w.heap.size) := ⟨rfl, rfl, rfl, by rw [World.size_setCell]; exact Nat.le_refl _, fun k hk hne => Below.heap_setCell w1 _ _ k (fun e => hne (by rw [e]))⟩
  refine ⟨⟨blk_set hbx 0 _, Nat.le_refl _, ?_, HL.out, HN.out, H1.out⟩, (za8 HB.out hb).grown hgr (za8 HB.out hb).size (fun k e => by cases e; exact Nat.le_refl _)⟩
  have ho2 : w1.ownsRow w.heap.size 162 3 (.slice A' ks.length c') ks.length (entsOf ks vs) := by
   refine ⟨ho.1, ho.2.imp id ?_⟩
   rintro ⟨g, c, cur, e, hbg, hr⟩
   exact ⟨g, c, cur, e, by rw [World.size_alloc] at hbg; omega, hr⟩
  refine ownsRow_keep ho2 (fun g hg => Below.heap_setCell w1 _ _ g (fun e => ?_))
  rcases ho.2 with ⟨e2, _⟩ | ⟨g', c2, cur, e2, hbg, hcur, _⟩
  ·
   rw [e2] at hg; cases hg
  ·
   rw [e2] at hg; cases hg
   rw [World.size_alloc] at hbg
   have e' : g' = w.heap.size := e
   omega⟩
 clear hbx ho hb HB HO HBX
 go_wp2
 go_ret
 exact ⟨_, _, rfl, HEND.out⟩
set_option maxHeartbeats 1000000 in
set_option maxRecDepth 100000 in
theorem all_call (base mp : Nat) (v : Value) (ks : List Dot) (vs : List Value) (w : World) (h : MapSt base w mp v ks vs) :
  Calls Tryz.prog 92 #[.pointer (some ⟨mp, 0, none⟩)] w fun e w' => ∃ bc v', e = .returned (.func (.func 113) #[] #[.pointer (some ⟨bc, 0, none⟩)]) ∧ OverSt w.heap.size w' bc v' ks vs ∧ Below w.heap.size w w' := by
 have H := za0.mk h
 obtain ⟨A, c, e, _⟩ := h.ents
 have hm1 : w.cell? ⟨mp, 1, none⟩ = some (.slice A ks.length c) := (za4 h.map 1).trans (by rw [e]; rfl)
 have HE := za0.mk e
 clear h e
 go_enter Tryz.func92, Tryz.ntmps92
 go_wp2_with fail
 refine (zero_call mp _ w H.out.map).mono ?_
 rintro e w1 ⟨rfl, rfl⟩
 go_wp2_with fail
 refine (over_call base _ ks vs w1 (by rw [← HE.out]; exact H.out.row) H.out.len H.out.small H.out.one).mono ?_
 rintro e w2 ⟨bc, v', rfl, ho, hb⟩
 have HO := za0.mk ho
 have HB := za0.mk hb
 clear ho hb hm1
 go_wp2
 go_ret
 exact ⟨_, _, rfl, HO.out, HB.out⟩
theorem zip_get {ks : List Dot} {vs : List Value} {k : Nat} (hl : vs.length = ks.length) (hk : k < ks.length) : ∃ d u, (ks.zip vs)[k]? = some (d, u) ∧ ks[k]? = some d ∧ vs[k]? = some u :=
 ⟨ks[k], vs[k]'(by omega), by rw [List.getElem?_zip_eq_some]; exact ⟨List.getElem?_eq_getElem hk, List.getElem?_eq_getElem (by omega)⟩, List.getElem?_eq_getElem hk, List.getElem?_eq_getElem (by omega)⟩
set_option maxRecDepth 100000 in
set_option maxHeartbeats 1000000 in
theorem over_in (n lp bc n₀ base : Nat) (E : Nat → Prop) (v : Value) (ks : List Dot) (vs : List Value) (hn : 1 ≤ n) (J Jx : Nat → World → Prop) (W : World) (hJ : ∀ k A o, W.heap.size ≤ A.heap.size → J k A → J k (A.alloc o))
  (hY : ∀ k p V, (ks.zip vs)[k]? = some p → J k V → YieldAt Fence.wide (n - 1) Tryz.prog lp #[vDot (p : Dot × Value).1, p.2] V fun e V' => (e = .returned (.bool true) ∧ J (k + 1) V' ∧ KpE n₀ E V V') ∨ (e = .returned (.bool false) ∧ Jx (k + 1) V'))
  (hO : OverSt base W bc v ks vs) (hn0 : n₀ ≤ W.heap.size) (hB : bc < n₀ ∧ ¬ E bc) (hA : ∀ g, v.ownBlock = some g → g < n₀ ∧ ¬ E g) (h0 : J 0 W) (hsl : ∀ u ∈ vs, ∃ A m c, u = .slice A m c) :
  CallsIn Fence.wide n Tryz.prog 113 #[.func (.yield lp) #[] #[], .pointer (some ⟨bc, 0, none⟩)] W fun e V => (∃ r, e = .returned r) ∧ (J (ks.zip vs).length V ∨ ∃ k, k ≤ (ks.zip vs).length ∧ Jx k V) := by
 have hzl : (ks.zip vs).length = ks.length := by rw [List.length_zip, hO.len, Nat.min_self]
 obtain ⟨A, c, hv, _⟩ := hO.ents
 have HY := za0.mk hY
 have HO := za0.mk hO
 have HJ := za0.mk hJ
 have HB := za0.mk hB
 have HA := za0.mk hA
 have HN0 := za0.mk hn0
 have HSL := za0.mk hsl
 have HV := za0.mk hv
 have HKE : ∀ {V : World}, KpE n₀ E W V → OverSt base V bc v ks vs := fun {V} hk => HO.out.keep (hk.2 bc HB.out.1 HB.out.2) (fun g hg => hk.2 g (HA.out g hg).1 (HA.out g hg).2)
 have HK := za0.mk @HKE
 obtain ⟨m, Hm⟩ : ∃ m, za0 (ks.length = m) := ⟨_, ⟨rfl⟩⟩
 rw [hzl, Hm.out]
 have hm6 : m ≤ 1000000 := by rw [← Hm.out]; exact hO.small
 have hb0 : W.cell? ⟨bc, 0, none⟩ = some (.slice A m c) := (za4 hO.box 0).trans (by rw [hv, Hm.out]; rfl)
 clear hY hO hJ hB hA hn0 HKE hsl hzl hv
 refine callsIn_of_wp Tryz.func113 rfl trivial ?_ rfl
 simp only [Tryz.ntmps113, List.size_toArray, List.length_cons, List.length_nil, Nat.reduceAdd, Nat.reduceSub, Array.replicate_succ, Array.replicate_zero, List.push_toArray, List.append_toArray, List.nil_append, List.cons_append]
 gi_wp2
 gi_loopw [7] (fun i wr => ∃ k : Nat, k ≤ m ∧ i = .int .i64 (k : Int) ∧ za0 (J k wr) ∧ za0 (KpE n₀ E W wr)) (fun i _ => m - (intOf i).toNat)
 case atStart => exact ⟨0, Nat.zero_le _, rfl, ⟨h0⟩, ⟨KpE.refl _ _ _⟩⟩
 case round =>
  obtain ⟨k, hk, rfl, hJ, hK⟩ := hrel
  clear h0 hb0
  by_cases hlt : k < m
  ·
   obtain ⟨d, u, hz, hkd, hvu⟩ := zip_get (ks := ks) (vs := vs) HO.out.len (show k < ks.length by rw [Hm.out]; exact hlt)
   obtain ⟨Au, nu, cu, rfl⟩ := HSL.out u (List.mem_of_getElem? hvu)
   have hO2 := HK.out hK.out
   obtain ⟨A', c', e', hents⟩ := hO2.ents
   obtain ⟨eb, ea, c0, c1, c2⟩ := hents.row k d _ hkd hvu
   have hAA : A = A' := by have := HV.out.symm.trans e'; cases this; rfl
   subst hAA
   subst ea
   have HJA := za0.mk (fun o => HJ.out k wr o hK.out.1 hJ.out)
   have HKA := za0.mk (fun o => (hK.out.trans (KpE.below (E := E) (((Below.refl wr.heap.size wr).alloc (Nat.le_refl _) o).mono (Nat.le_trans HN0.out hK.out.1)))))
   have HZ := za0.mk hz
   clear hO2 e' hents hkd hvu hz
   obtain ⟨fn, tmps, assign, body, hy, hR⟩ := HY.out k (d, .slice Au nu cu) (wr.alloc (.cells #[.int .i64 d.f0, .int .i64 d.f1, .slice Au nu cu] 162 (0, 0))) HZ.out (HJA.out _)
   dsimp only at hy
   gi_wp2
   refine hR.mono ?_
   rintro e W3 (⟨rfl, hJ3, hk3⟩ | ⟨rfl, hJx3⟩)
   ·
    gi_wp2
    go_roundw
    case rel => exact ⟨k + 1, by omega, by go_num, ⟨hJ3⟩, ⟨(HKA.out _).trans hk3⟩⟩
    case measure => simp [intOf] <;> omega
   ·
    gi_wp2
    refine bodyPost_ret (results_none rfl _ _ _) rfl ?_
    exact ⟨⟨_, rfl⟩, .inr ⟨k + 1, by omega, hJx3⟩⟩
  ·
   obtain rfl : k = m := by omega
   gi_wp2
   go_end0
   exact ⟨⟨_, rfl⟩, .inl hJ.out⟩
section
open Go.Sort
theorem flatMap_get {α : Type} [Inhabited α] (enc : α → List Value) (k : Nat) (hk : ∀ x, (enc x).length = k) (h0 : 0 < k) : ∀ (l : List α) (t : Nat), t < l.length * k → (l.flatMap enc)[t]? = (enc (l[t / k]?.getD default))[t % k]?
 | [], t, h => by simp at h
 | x :: l, t, h => by
  rw [List.flatMap_cons]
  by_cases ht : t < k
  ·
   rw [List.getElem?_append_left (by rw [hk]; exact ht), Nat.div_eq_of_lt ht, Nat.mod_eq_of_lt ht]
   rfl
  ·
   rw [List.getElem?_append_right (by rw [hk]; omega), hk]
   have hl : t - k < l.length * k := by
    rw [List.length_cons, Nat.add_mul, Nat.one_mul] at h
    omega
   rw [flatMap_get enc k hk h0 l (t - k) hl]
   have e1 : t / k = (t - k) / k + 1 := by
    rw [Nat.div_eq t k, if_pos ⟨h0, by omega⟩]
   have e2 : t % k = (t - k) % k := by
    rw [Nat.mod_eq t k, if_pos ⟨h0, by omega⟩]
   rw [e1, e2]
   rfl
theorem flatMap_len {α : Type} (enc : α → List Value) (k : Nat) (hk : ∀ x, (enc x).length = k) : ∀ l : List α, (l.flatMap enc).length = l.length * k
 | [] => by simp
 | x :: l => by rw [List.flatMap_cons, List.length_append, hk, flatMap_len enc k hk l, List.length_cons, Nat.add_mul, Nat.one_mul, Nat.add_comm]
theorem flatK_eq {α : Type} [Inhabited α] (enc : α → List Value) (k : Nat) (hk : ∀ x, (enc x).length = k) (h0 : 0 < k) (d : Array α) : flatK enc k d = (d.toList.flatMap enc).toArray := by
 refine ext_get! (by show _ = (d.toList.flatMap enc).length; rw [size_flatK, flatMap_len enc k hk, Array.length_toList]) fun t ht => ?_
 rw [size_flatK] at ht
 rw [get_flatK enc k d t ht]
 have h1 := flatMap_get enc k hk h0 d.toList t (by rw [Array.length_toList]; exact ht)
 have h2 : t / k < d.size := by rw [Nat.div_lt_iff_lt_mul h0]; exact ht
 have h3 : (d.toList[t / k]?.getD default) = d[t / k]! := by
  rw [getElem!_pos d _ h2, List.getElem?_eq_getElem (by rw [Array.length_toList]; exact h2)]
  simp
 rw [h3] at h1
 have h4 : t % k < (enc d[t / k]!).length := by rw [hk]; exact Nat.mod_lt _ h0
 rw [List.getElem?_eq_getElem h4] at h1
 have h5 : t < (d.toList.flatMap enc).toArray.size := by show t < (d.toList.flatMap enc).length; rw [flatMap_len enc k hk, Array.length_toList]; exact ht
 rw [getElem!_pos (enc d[t / k]!) (t % k) h4, getElem!_pos (d.toList.flatMap enc).toArray t h5]
 have := (List.getElem?_eq_some_iff.1 h1).2
 simpa using this.symm
theorem row_holds {α : Type} [Inhabited α] (enc : α → List Value) (k : Nat) (hk : ∀ x, (enc x).length = k) (h0 : 0 < k) {w : World} {g T n : Nat} {cur : Array Value} {d : Array α} (hcur : w.heap[g]? = some (.cells cur T (0, 0))) (hn : d.size = n) (htk : cur.toList.take (n * k) = d.toList.flatMap enc) : HoldsK enc k w g 0 d := by
 intro t ht
 rw [size_flatK] at ht
 refine ⟨?_, za9 hcur _⟩
 rw [flatK_eq enc k hk h0, Nat.zero_add, za4 hcur, ← Array.getElem?_toList]
 have hl : t < (d.toList.flatMap enc).length := by rw [flatMap_len enc k hk, Array.length_toList]; exact ht
 have e1 : cur.toList[t]? = (d.toList.flatMap enc)[t]? := by rw [← htk, List.getElem?_take, if_pos (by rw [← hn]; exact ht)]
 rw [e1, List.getElem?_eq_getElem hl, getElem!_pos _ _ (by rw [List.size_toArray]; exact hl)]
 simp
theorem row_sorted {α : Type} [Inhabited α] (enc : α → List Value) (k : Nat) (hk : ∀ x, (enc x).length = k) (h0 : 0 < k) {w : World} {g T n cap : Nat} {cur : Array Value} {d' : Array α} (hcur : w.heap[g]? = some (.cells cur T (0, 0))) (hsz : cur.size = cap * k) (hn : d'.size = n) (hle : n ≤ cap) (m : Nat) (os : Array Obj) :
  (∃ cur', (sortWorldK enc k w g 0 m d' os).heap[g]? = some (.cells cur' T (0, 0)) ∧ cur'.size = cap * k ∧ cur'.toList.take (n * k) = d'.toList.flatMap enc) ∧ Tch (fun i => some g = some i) w (sortWorldK enc k w g 0 m d' os) := by
 have hg := zae hcur
 have hfl := flatK_eq enc k hk h0 d'
 have hfs : (flatK enc k d').size = n * k := by rw [size_flatK, hn]
 have hle2 : n * k ≤ cap * k := Nat.mul_le_mul_right k hle
 constructor
 ·
  refine ⟨putCells id 0 (flatK enc k d') cur, ?_, ?_, ?_⟩
  ·
   show ((w.heap.modify g (onCells (putCells id 0 (flatK enc k d')))) ++ os)[g]? = _
   rw [Array.getElem?_append_left (by simpa using hg), Array.getElem?_modify, if_pos rfl, hcur]
   rfl
  ·
   unfold putCells; rw [Array.size_mapIdx]; exact hsz
  ·
   refine List.ext_getElem? fun t => ?_
   rw [List.getElem?_take]
   by_cases ht : t < n * k
   ·
    rw [if_pos ht]
    unfold putCells
    rw [Array.getElem?_toList, Array.getElem?_mapIdx, Array.getElem?_eq_getElem (by omega)]
    simp only [Option.map_some, Nat.zero_le, Nat.zero_add, Nat.sub_zero, true_and]
    rw [if_pos (by rw [hfs]; exact ht), hfl]
    have hl : t < (d'.toList.flatMap enc).length := by rw [flatMap_len enc k hk, Array.length_toList, hn]; exact ht
    rw [List.getElem?_eq_getElem hl, getElem!_pos (d'.toList.flatMap enc).toArray t hl]
    simp
   ·
    rw [if_neg ht, List.getElem?_eq_none]
    rw [flatMap_len enc k hk, Array.length_toList, hn]; omega
 ·
  refine ⟨rfl, rfl, rfl, ?_, fun i hi hne => ?_⟩
  ·
   show w.heap.size ≤ ((w.heap.modify g (onCells (putCells id 0 (flatK enc k d')))) ++ os).size
   simp
  ·
   show ((w.heap.modify g (onCells (putCells id 0 (flatK enc k d')))) ++ os)[i]? = _
   rw [Array.getElem?_append_left (by simpa using hi), Array.getElem?_modify, if_neg (fun e => hne (by rw [e]))]
end
def sortN (xs : List Node) : List Node := xs.foldl (fun o x => insB x o) []
theorem firstI_lt (a b : Node) : decide (firstI a b < 0) = nodeLt a b := by
 unfold firstI
 cases h : nodeLt a b with
 | true => simp
 | false => cases nodeLt b a <;> simp
instance : Inhabited Node := ⟨⟨⟨0, 0⟩, ⟨0, 0⟩, 0, 0⟩⟩
theorem swoN : Go.Sort.SWO (ltOf firstI) := by
 have e : ltOf firstI = nodeLt := by funext x y; exact firstI_lt x y
 rw [e]
 exact ⟨nodeLt_irrefl, fun _ _ _ h k => nodeLt_trans h k, fun _ _ _ h k => nodeLt_ntrans h k⟩
set_option maxRecDepth 100000 in
theorem sort_call (base g n cap : Nat) (xs : List Node) (w : World) (h : RN w base (.slice (some ⟨g, 0, none⟩) n cap) xs) (hl : xs.length ≤ 1000000) (hu : ∀ x ∈ xs, ∀ y ∈ xs, x.f0 = y.f0 → x = y) :
  Calls Tryz.prog 93 #[.slice (some ⟨g, 0, none⟩) n cap, .func (.func 94) #[] #[]] w fun e w' => e = .returned (.tuple #[]) ∧ RN w' base (.slice (some ⟨g, 0, none⟩) n cap) (sortN xs) ∧ Tch (fun i => some g = some i) w w' := by
 have hn : n = xs.length := (Kd.R_reads' h).1
 obtain ⟨hcl, ho⟩ := cells_of_R h
 rcases ho with ⟨h0, _⟩ | ⟨g', cap', cur, he, hbg, hcur, hle, hmx, hsz, htk⟩
 ·
  cases h0
 rw [← hn] at he
 cases he
 have hds : xs.toArray.size = n := by rw [List.size_toArray]; exact hn.symm
 have hH := row_holds zar 6 (fun _ => rfl) (by decide) (d := xs.toArray) hcur hds (by rw [hn]; exact htk)
 have hcon := Go.Proofs.AnyQ.slices_SortFunc Tryz.sortNode 6 Tryz.isAgg42 Tryz.sizeOf42 zar (fun _ => rfl) (fun x v hv => one_cells [x] v (by simpa [cellsOf] using hv)) firstI swoN 94 #[] g 0 cap xs.toArray w Tryz.call94 (fun m os dk hs x y => first_call x y _) hH (zae hcur) (by rw [hds]; omega)
 rw [hds] at hcon
 refine hcon.mono ?_
 rintro e w' ⟨rfl, d', m, os, hp, hs, rfl⟩
 have hd' : d'.size = n := hp.1.trans hds
 obtain ⟨⟨cur', h1, h2, h3⟩, ht⟩ := row_sorted zar 6 (fun _ => rfl) (by decide) (d' := d') hcur hsz hd' (by rw [hn]; exact hle) m os
 have hperm : d'.toList.Perm xs := by
  have := hp.2.2
  rw [hd'.symm, Array.extract_size, hd', ← hds, Array.extract_size] at this
  exact this
 have hsort : SortedN d'.toList := by
  refine List.pairwise_iff_getElem.2 fun i j hi hj hij => ?_
  have := hs i j (Nat.zero_le _) hij (by rw [Array.length_toList, hd'] at hj; omega)
  rw [Array.length_toList] at hi hj
  rw [getElem!_pos d' j hj, getElem!_pos d' i hi] at this
  rw [← firstI_lt]
  simpa [ltOf] using this
 have heq : d'.toList = sortN xs := by
  have h4 := foldB_perm xs []
  rw [List.append_nil] at h4
  exact sorted_unique (hperm.trans h4.symm) hsort (foldB_sorted xs [] List.Pairwise.nil) (fun x hx y hy e => hu x (hperm.mem_iff.1 hx) y (hperm.mem_iff.1 hy) e)
 have hlen : (sortN xs).length = n := by rw [← heq, Array.length_toList]; exact hd'
 refine ⟨rfl, R_of_cells ⟨by rw [cellsOf_length], .inr ⟨g, cap, cur', by rw [hlen], hbg, h1, by rw [hlen, hn]; exact hle, hmx, h2, ?_⟩⟩ (fun _ _ => trivial), ht⟩
 rw [hlen, h3, heq]
 rfl
end
end Go.Proofs.YtefejajofmpjdaaGreat.PWalk
end
