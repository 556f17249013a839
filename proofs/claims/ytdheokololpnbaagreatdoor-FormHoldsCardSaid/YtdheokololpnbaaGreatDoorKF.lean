/-
  The theorem of stage 13: the law FormHolds returns true for every list of nodes, where the program's words of flaws are laid as its text lays them. Part 6 of 9.
-/
import Derived.Test.YtdheokololpnbaaGreatDoorKE
import Derived.Sort.LoopGhostIn
import Derived.Sort.QuietTacIn
import Derived.OrdersIn
import Derived.StillTailTactics
import Derived.Maps.OwnOps
import Derived.IntWalk
import Derived.RangeFuncNested
import Derived.RangeFuncBound
import Derived.RangeFuncCalls
import Derived.RangeFuncLeaves
import Derived.Shelf.Abstract
import Derived.Shelf.RegionOpen
import Derived.OwnWalkIn
import Derived.TacticsInMore
import Derived.LoopNIn
import Derived.LoopIn
import Derived.RangeFuncBox
import Derived.Maps.AppendAt
import Derived.Lib.BufferMore
import Derived.Laws.CopyRow
import Derived.LoopTactic
import Derived.Outline
import Derived.Lib.AppendZeros
import Derived.Maps.RangeRun
import Derived.Maps.RangeWalk
import Derived.Shelf.SlSortCmp.NoneTotal
section
namespace Go.Proofs.YtdheokololpnbaaGreatDoor.PWalk
open Go.RowKit Go.Proofs.YtdheokololpnbaaGreatDoorW.PrintWords Go.Proofs.YtdheokololpnbaaGreatDoorW.PrintLast Go.Proofs.YtdheokololpnbaaGreatDoorW.PrintMore
set_option linter.unusedVariables false
set_option linter.unusedSimpArgs false
open Go.Shelf
attribute [local go_sem] Oper.semAt_some
set_option maxRecDepth 100000 in
set_option maxHeartbeats 1000000 in
theorem bkNodes_in (n lp Bs n₀ : Nat) (E : Nat → Prop) (A : Option Addr) (c0 : Nat) (xs : List Node) (hn : 1 ≤ n) (hm : xs.length ≤ 1000000) (J Jx : Nat → World → Prop)
  (hY : ∀ k x W, (bk xs)[k]? = some x → J k W → YieldAt Fence.wide (n - 1) Tryz.prog lp #[.int .i64 ((x : Nat × Node).1 : Int), vNode x.2] W fun e W' =>
   (e = .returned (.bool true) ∧ J (k + 1) W' ∧ KpE n₀ E W W') ∨ (e = .returned (.bool false) ∧ Jx (k + 1) W'))
  (W : World) (hBs : W.cell? ⟨Bs, 0, none⟩ = some (.slice A xs.length c0)) (hB0 : Bs < n₀) (hBE : ¬ E Bs) (hA : ∀ ad, A = some ad → 0 < xs.length → ad.block < n₀ ∧ ¬ E ad.block) (hr : Kd.C k35 W A xs.length xs) (h0 : J 0 W) :
  CallsIn Fence.wide n Tryz.prog 56 #[.func (.yield lp) #[] #[], .pointer (some ⟨Bs, 0, none⟩)] W fun e W' => (∃ v, e = .returned v) ∧
   (J (bk xs).length W' ∨ ∃ k, k ≤ (bk xs).length ∧ Jx k W') := by
 have hu := Tryz.underlying35
 have HY := Aside0.mk hY
 have HR := Aside0.mk hr
 have HA := Aside0.mk hA
 have HE := Aside0.mk hBE
 clear hY hr hA hBE
 refine callsIn_of_wp Tryz.func56 rfl trivial ?_ rfl
 simp only [Tryz.ntmps56, List.size_toArray, List.length_cons, List.length_nil, Nat.reduceAdd, Nat.reduceSub, Array.replicate_succ, Array.replicate_zero, List.push_toArray, List.append_toArray, List.nil_append, List.cons_append]
 gi_wp2
 gi_loopw [3] (fun i wr => ∃ k : Nat, k ≤ xs.length ∧ i = .int .i64 ((xs.length : Int) - 1 - k) ∧ Aside0 (J k wr) ∧ Aside0 (KpE n₀ E W wr)) (fun i _ => (intOf i + 1).toNat)
 case atStart => exact ⟨0, Nat.zero_le _, by simp, ⟨h0⟩, ⟨KpE.refl _ _ _⟩⟩
 case round =>
  obtain ⟨k, hk, rfl, hJ, hK⟩ := hrel
  have hs : wr.cell? ⟨Bs, 0, none⟩ = some (.slice A xs.length c0) := hK.out.cell (p := ⟨Bs, 0, none⟩) hB0 HE.out hBs
  by_cases hlt : k < xs.length
  ·
   obtain ⟨x, hx⟩ : ∃ x, Aside0 (xs[xs.length - 1 - k]? = some x) := ⟨_, ⟨List.getElem?_eq_getElem (by omega)⟩⟩
   obtain ⟨ad, e, g0, g1, g2, g3, g4, g5⟩ := node_at HR.out (Below.refl _ _) _ x hx.out
   subst e
   obtain ⟨ha, hae⟩ := HA.out ad rfl (by omega)
   have hbl : (ad.add ((xs.length - 1 - k) * 6)).block = ad.block := by unfold Addr.add; split <;> rfl
   replace g0 := hK.out.cell (p := ad.add ((xs.length - 1 - k) * 6)) (by rw [hbl]; exact ha) (by rw [hbl]; exact hae) g0
   replace g1 := hK.out.cell (p := ⟨_, _, none⟩) (by simp only [hbl]; exact ha) (by simp only [hbl]; exact hae) g1
   replace g2 := hK.out.cell (p := ⟨_, _, none⟩) (by simp only [hbl]; exact ha) (by simp only [hbl]; exact hae) g2
   replace g3 := hK.out.cell (p := ⟨_, _, none⟩) (by simp only [hbl]; exact ha) (by simp only [hbl]; exact hae) g3
   replace g4 := hK.out.cell (p := ⟨_, _, none⟩) (by simp only [hbl]; exact ha) (by simp only [hbl]; exact hae) g4
   replace g5 := hK.out.cell (p := ⟨_, _, none⟩) (by simp only [hbl]; exact ha) (by simp only [hbl]; exact hae) g5
   clear hbl hae ha
   have hx' : x = xs[xs.length - 1 - k]'(by omega) := by have := hx.out; rw [List.getElem?_eq_getElem (by omega)] at this; exact (Option.some.inj this).symm
   have HT : Aside0 ((bk xs)[k]? = some (xs.length - 1 - k, x)) := ⟨by rw [bk_get xs k hlt, hx']⟩
   clear hx'
   have hi : ((xs.length : Int) - 1 - k) = ((xs.length - 1 - k : Nat) : Int) := by omega
   rw [hi]
   obtain ⟨j, hj⟩ : ∃ j, Aside0 (j = xs.length - 1 - k) := ⟨_, ⟨rfl⟩⟩
   rw [← hj.out] at g0 g1 g2 g3 g4 g5 ⊢
   have hjl : j < xs.length := by rw [hj.out]; omega
   obtain ⟨fn, tmps, assign, body, hy, hR⟩ := HY.out k (j, x) wr (by rw [hj.out]; exact HT.out) hJ.out
   dsimp only at hy
   clear hi
   gi_wp2
   refine hR.mono ?_
   rintro e W3 (⟨rfl, hJ3, hk3⟩ | ⟨rfl, hJx3⟩)
   ·
    gi_wp2
    go_roundw
    case rel => exact ⟨k + 1, by omega, by rw [hj.out]; (try congr 1); (try omega), ⟨hJ3⟩, ⟨hK.out.trans hk3⟩⟩
    case measure => simp [intOf] <;> omega
   ·
    gi_wp2
    refine bodyPost_ret (results_none rfl _ _ _) rfl ?_
    exact ⟨⟨_, rfl⟩, .inr ⟨k + 1, by rw [bk_length]; omega, hJx3⟩⟩
  ·
   obtain rfl : k = xs.length := by omega
   have hi : ((xs.length : Int) - 1 - xs.length) = -1 := by omega
   rw [hi]
   clear hi
   gi_wp2
   go_end0
   exact ⟨⟨_, rfl⟩, .inl (by rw [bk_length]; exact hJ.out)⟩
def stepCells (p : Nat × Node) : List Value := nodeCells p.2 ++ [.int .i64 p.1]
def stepsOf (l : List (Nat × Node)) : List Value := l.flatMap stepCells
theorem stepCells_length (p : Nat × Node) : (stepCells p).length = 7 := rfl
theorem stepsOf_length (l : List (Nat × Node)) : (stepsOf l).length = l.length * 7 := by
 induction l with
 | nil => rfl
 | cons x l ih => rw [stepsOf, List.flatMap_cons, List.length_append, ← stepsOf, ih, stepCells_length]; simp; omega
theorem stepsOf_append (l m : List (Nat × Node)) : stepsOf (l ++ m) = stepsOf l ++ stepsOf m := by simp [stepsOf]
theorem stepsOf_one (p : Nat × Node) : stepsOf [p] = stepCells p := by simp [stepsOf]
theorem stepCells_one (p : Nat × Node) : ∀ u ∈ stepCells p, u.oneCell' = true := by
 intro u hu
 simp [stepCells, nodeCells] at hu
 rcases hu with rfl | rfl | rfl | rfl | rfl | rfl | rfl <;> rfl
/-- The row of the steps, the one that comes next at its end. -/
def Todo (W : World) (base : Nat) (u : Value) (S : List (Nat × Node)) : Prop := W.ownsRow base 127 7 u S.length (stepsOf S)
theorem Todo.nil (W : World) (base : Nat) : Todo W base (.slice none 0 0) [] := World.ownsRow_nil _ _ _ _
theorem Todo.keep {W V : World} {base : Nat} {u : Value} {S : List (Nat × Node)} (h : Todo W base u S) (hk : ∀ g, u.ownBlock = some g → V.heap[g]? = W.heap[g]?) : Todo V base u S := ownsRow_keep h hk
theorem Todo.block {W : World} {base : Nat} {u : Value} {S : List (Nat × Node)} (h : Todo W base u S) {g : Nat} (hg : u.ownBlock = some g) : base ≤ g ∧ ∃ cur, W.heap[g]? = some (.cells cur 127 (0, 0)) := by
 rcases h.2 with ⟨rfl, _⟩ | ⟨g', c, cur, rfl, hb, hcur, _⟩
 ·
  cases hg
 ·
  cases hg; exact ⟨hb, cur, hcur⟩
theorem Todo.below {W V : World} {base : Nat} {u : Value} {S : List (Nat × Node)} (h : Todo W base u S) (hb : Below W.heap.size W V) : Todo V base u S :=
 h.keep fun g hg => hb.block g (blk_lt (h.block hg).2.choose_spec)
theorem Todo.slice {W : World} {base : Nat} {u : Value} {S : List (Nat × Node)} (h : Todo W base u S) : ∃ A c, u = .slice A S.length c := ownsRow_slice h
theorem row_pop {w : World} {base : Nat} {e : TypeId} {size g cap n : Nat} {xs last : List Value} (hx : xs.length = n * size)
  (h : w.ownsRow base e size (.slice (some ⟨g, 0, none⟩) (n + 1) cap) (n + 1) (xs ++ last)) : w.ownsRow base e size (.slice (some ⟨g, 0, none⟩) n cap) n xs := by
 obtain ⟨_, ⟨h0, _⟩ | ⟨g', cap', cur, hv, hg, hh, hn, hcap, hsz, htake⟩⟩ := h
 ·
  cases h0
 ·
  cases hv
  refine ⟨hx, .inr ⟨g, cap, cur, rfl, hg, hh, by omega, hcap, hsz, ?_⟩⟩
  have h3 : (cur.toList.take ((n + 1) * size)).take (n * size) = (xs ++ last).take (n * size) := by rw [htake]
  rw [List.take_take, Nat.min_eq_left (Nat.mul_le_mul_right _ (by omega))] at h3
  rw [h3, ← hx, List.take_left]
/-- A row is the same, or a new one. -/
def RowOr (W : World) (u u' : Value) : Prop := u'.ownBlock = u.ownBlock ∨ ∃ b, u'.ownBlock = some b ∧ W.heap.size ≤ b
theorem RowOr.refl (W : World) (u : Value) : RowOr W u u := .inl rfl
theorem RowOr.trans {W V : World} {a b c : Value} (h : RowOr W a b) (k : RowOr V b c) (hs : W.heap.size ≤ V.heap.size) : RowOr W a c := by
 rcases k with e | ⟨x, e, hx⟩
 ·
  rcases h with h | ⟨x, h, hx⟩
  ·
   exact .inl (e.trans h)
  ·
   exact .inr ⟨x, e.trans h, hx⟩
 ·
  exact .inr ⟨x, e, Nat.le_trans hs hx⟩
/-- The last step, in its cells. -/
theorem Todo.last {W : World} {base : Nat} {u : Value} {S : List (Nat × Node)} {p : Nat × Node} (h : Todo W base u (S ++ [p])) :
  ∃ g c, u = .slice (some ⟨g, 0, none⟩) (S.length + 1) c ∧ base ≤ g ∧ (∃ cur, W.heap[g]? = some (.cells cur 127 (0, 0))) ∧ (∀ i v, (stepCells p)[i]? = some v → W.cell? ⟨g, S.length * 7 + i, none⟩ = some v) ∧ Todo W base (.slice (some ⟨g, 0, none⟩) S.length c) S := by
 have h' := h
 unfold Todo at h'
 rw [List.length_append, stepsOf_append, stepsOf_one] at h'
 obtain ⟨g, c, rfl⟩ := ownsRow_succ h'
 refine ⟨g, c, rfl, (h.block rfl).1, (h.block rfl).2, fun i v hv => ?_, row_pop (stepsOf_length S) h'⟩
 have hi : i < 7 := (List.getElem?_eq_some_iff.1 hv).1
 rw [h'.cellAt (S.length * 7 + i) (by omega), List.getElem?_append_right (by rw [stepsOf_length]; omega), stepsOf_length, Nat.add_sub_cancel_left]
 exact hv
theorem infoSt : (Tryz.prog.info? 127).map (fun i => (i.zero, i.size, i.bytes)) = some (some (.agg #[(.int .i64 0), (.int .i64 0), (.int .i64 0), (.int .i64 0), (.int .i64 0), (.int .i32 0), (.int .i64 0)]), 7, 56) := by kernel_rfl
/-- One step is put behind the others. -/
theorem run_append_step (base : Nat) (ty : TypeId) (u : Value) (S : List (Nat × Node)) (p : Nat × Node) (g c : Nat) (w : World) (hu : Todo w base u S) (hg : w.heap[g]? = some (.cells (stepCells p).toArray 127 (0, 0))) (hb : base ≤ w.heap.size) (hl : S.length + 1 ≤ 1000001) :
  ∃ u' w', (Builtin.append_ #[124, 124] ty #[u, .slice (some ⟨g, 0, none⟩) 1 c]).run Tryz.prog w = .ok u' w' ∧ Todo w' base u' (S ++ [p]) ∧ w.grownBy w' u.ownBlock ∧ (u'.ownBlock = u.ownBlock ∨ u'.ownBlock = some w.heap.size) := by
 obtain ⟨i, hi, hz⟩ : ∃ i, Tryz.prog.info? 127 = some i ∧ (i.zero, i.size, i.bytes) = _ := by
  have := infoSt
  rcases h : Tryz.prog.info? 127 with _ | i
  ·
   rw [h] at this; cases this
  ·
   rw [h] at this; exact ⟨i, rfl, Option.some.inj this⟩
 simp only [Prod.mk.injEq] at hz
 obtain ⟨v', w', h1, h2, h3, _, h4⟩ := run_append_own_at (P := Tryz.prog) w base 124 ty 127 i _ 7 56 Tryz.underlying124 hi hz.1 hz.2.1 hz.2.2 rfl (by decide) u S.length (stepsOf S) hu ⟨g, 0, none⟩ 1 c (stepCells p) rfl
  (fun j v hv => by rw [add_lit, blk_cell hg, Nat.zero_add, List.getElem?_toArray]; exact hv) (stepCells_one p) (by simp only [maxLen]; omega) (by omega) hb
 refine ⟨v', w', h1, ?_, h3, h4⟩
 unfold Todo
 rw [stepsOf_append, stepsOf_one, List.length_append]
 exact h2
theorem wpListIn_append_eq {F : Fence} {n : Nat} {P : Program} {ops : Array Oper} {rest : List Oper} {o : Oper} {a : Act} {Q : Exit → Act → World → Prop} (hgd : o.guard = none) (s x : Operand) (t : TypeId) (ho : o.op = .call { callee := .builtin .append, args := #[s, x], argTypes := #[t, t] }) {v1 v2 v' : Value} {w w' : World}
  (hs : a.eval s = v1) (hx : a.eval x = v2) (hrun : (Builtin.append_ #[t, t] o.type #[v1, v2]).run P w = .ok v' w') (h : wpListIn F n P ops Q rest (a.put o.dst v') w') : wpListIn F n P ops Q (o :: rest) a w := by
 refine wpListIn_plain hgd fun K hK => ?_
 unfold Oper.wpIn
 refine ⟨by simp [Oper.about, ho, resolve, Target.leads, Sem.run_pure], ?_⟩
 rw [Oper.semAt_plain F _ _ (by rw [ho]; intro c hc'; cases hc')]
 simp [execOp, ho, resolve, invoke, builtin, hs, hx, hrun, Result.andThen]
 exact hK _ _ h
abbrev TODOc (u : Value) : Obj := .cells #[u] 124 (0, 0)
abbrev dotC (d : Dot) : Obj := .cells #[.int .i64 d.f0, .int .i64 d.f1] 33 (0, 0)
def pushed (l : List Node) (d : Dot) (dep : Nat) (k : Nat) : List (Nat × Node) := ((bk (kids l d)).take k).map fun p => (dep, p.2)
theorem pushed_succ {l : List Node} {d : Dot} {dep k : Nat} {x : Nat × Node} (h : (bk (kids l d))[k]? = some x) : pushed l d dep (k + 1) = pushed l d dep k ++ [(dep, x.2)] := by
 unfold pushed
 have hk := (List.getElem?_eq_some_iff.1 h).1
 rw [List.take_succ_eq_append_getElem hk, (List.getElem?_eq_some_iff.1 h).2, List.map_append]; rfl
theorem pushed_all (l : List Node) (d : Dot) (dep : Nat) : pushed l d dep (bk (kids l d)).length = ((kids l d).map fun y => (dep, y)).reverse := by
 unfold pushed
 rw [List.take_length, bk, List.map_reverse, List.map_map]
 congr 1
 rw [show ((fun p : Nat × Node => (dep, p.2)) ∘ fun p : Node × Nat => (p.2, p.1)) = (fun y => (dep, y)) ∘ Prod.fst from rfl, ← List.map_map, List.zipIdx_map_fst]
theorem pushed_length (l : List Node) (d : Dot) (dep k : Nat) : (pushed l d dep k).length ≤ (kids l d).length := by
 unfold pushed
 rw [List.length_map, List.length_take, bk_length]; omega
theorem stepOf_kids_le (l : List Node) (d : Dot) : (kids l d).length ≤ l.length := by rw [(kids_perm l d).length_eq]; exact List.length_filter_le _ _
theorem Tch.marks {E : Nat → Prop} {w W W' : World} (h : Tch E w W) (hm : OnlyMarks w.heap.size W W') : Tch E w W' :=
 ⟨hm.os.trans h.os, hm.tape.trans h.tape, hm.output.trans h.output, by rw [hm.size]; exact h.size, fun i hi he => (hm.block i (.inl hi)).trans (h.block i hi he)⟩
/-- What push touches. -/
def PushE (T : Nat) (u : Value) (i : Nat) : Prop := i = T ∨ u.ownBlock = some i
set_option maxHeartbeats 1000000 in
set_option maxRecDepth 100000 in
theorem push_call (fb base mp F T : Nat) (l : List Node) (d : Dot) (dep : Nat) (S : List (Nat × Node)) (u : Value) (w : World) (hfam : Fams fb w mp l) (hF : w.heap[F]? = some (boxF mp)) (hT : w.heap[T]? = some (TODOc u)) (hu : Todo w base u S) (hb : base ≤ w.heap.size)
  (hl : l.length ≤ 1000000) (hS : S.length + (kids l d).length ≤ 1000000) :
  Calls Tryz.prog 84 #[vDot d, .int .i64 (dep : Int), .pointer (some ⟨F, 0, none⟩), .pointer (some ⟨T, 0, none⟩)] w fun e w' => (∃ v, e = .returned v) ∧
   ∃ u', w'.heap[T]? = some (TODOc u') ∧ Todo w' base u' (S ++ ((kids l d).map fun y => (dep, y)).reverse) ∧ RowOr w u u' ∧ Tch (PushE T u) w w' := by
 have HFM := Aside0.mk hfam
 have HF := Aside0.mk hF
 have HT := Aside0.mk hT
 have HU := Aside0.mk hu
 have HL := Aside0.mk hl
 have HS := Aside0.mk hS
 have HBW := Aside0.mk hb
 have hgr := ((Gr.alloc w (dotC d)).trans (Gr.alloc _ (.cells #[.int .i64 (dep : Int)] 3 (0, 0)))).below
 have HG := Aside0.mk hgr
 have HD : Aside0 (((w.alloc (dotC d)).alloc (.cells #[.int .i64 (dep : Int)] 3 (0, 0))).heap[w.heap.size]? = some (dotC d)) := ⟨blk_alloc (blk_new _ _) _⟩
 have HI : Aside0 (((w.alloc (dotC d)).alloc (.cells #[.int .i64 (dep : Int)] 3 (0, 0))).heap[w.heap.size + 1]? = some (.cells #[.int .i64 (dep : Int)] 3 (0, 0))) := ⟨by have := blk_new (w.alloc (dotC d)) (.cells #[.int .i64 (dep : Int)] 3 (0, 0)); rwa [World.size_alloc] at this⟩
 have hF1 := blk_keep hF hgr
 have c0 : ((w.alloc (dotC d)).alloc (.cells #[.int .i64 (dep : Int)] 3 (0, 0))).cell? ⟨F, 0, none⟩ = _ := (blk_cell hF1 0).trans rfl
 have c1 : ((w.alloc (dotC d)).alloc (.cells #[.int .i64 (dep : Int)] 3 (0, 0))).cell? ⟨w.heap.size, 0, none⟩ = _ := (blk_cell HD.out 0).trans rfl
 have c2 : ((w.alloc (dotC d)).alloc (.cells #[.int .i64 (dep : Int)] 3 (0, 0))).cell? ⟨w.heap.size, 1, none⟩ = _ := (blk_cell HD.out 1).trans rfl
 have HFM1 := Aside0.mk (hfam.below hgr)
 clear hfam hF hT hu hl hS hgr hF1 hb HFM
 refine calls_of_wp_m Tryz.func84 rfl ?_
 simp only [Tryz.ntmps84, List.size_toArray, List.length_cons, List.length_nil, Nat.reduceAdd, Nat.reduceSub, Array.replicate_succ, Array.replicate_zero, List.push_toArray, List.append_toArray, List.nil_append, List.cons_append]
 go_wp2_with fail
 refine (of_call fb mp l d _ HFM1.out).mono ?_
 rintro e w1 ⟨v, rfl, hr, hb1⟩
 obtain ⟨A, c, rfl⟩ := Kd.R_slice hr
 obtain ⟨n, Hn⟩ : ∃ n, Aside0 ((kids l d).length = n) := ⟨_, ⟨rfl⟩⟩
 rw [Hn.out] at hr
 rw [Hn.out]
 have HR := Aside0.mk hr
 have HB := Aside0.mk (below_more HG.out hb1)
 have HI := Aside0.mk (blk_keep HI.out hb1)
 clear hr hb1 c0 c1 c2 HD HG
 go_wp2_with fail
 refine (BackwardNode.calls A n c w1).mono ?_
 rintro e w2 ⟨rfl, rfl⟩
 go_wp2_with fail
 have HBS : Aside0 ((w1.alloc (.cells #[.slice A n c] 22)).heap[w1.heap.size]? = some (.cells #[.slice A n c] 22 (0, 0))) := ⟨blk_new _ _⟩
 have hg1 := (Gr.alloc w1 (.cells #[.slice A n c] 22 (0, 0))).below
 have HR1 := Aside0.mk (HR.out.below' hg1)
 have HI1 := Aside0.mk (blk_keep HI.out hg1)
 have HB1 := Aside0.mk (below_more HB.out hg1)
 have HBSz : Aside0 (w1.heap.size < (w1.alloc (.cells #[.slice A n c] 22)).heap.size) := ⟨by rw [World.size_alloc]; omega⟩
 have HDz : Aside0 (w.heap.size + 1 < (w1.alloc (.cells #[.slice A n c] 22)).heap.size) := ⟨Nat.lt_of_lt_of_le (blk_lt HI.out) (by rw [World.size_alloc]; omega)⟩
 clear hg1 HR HI HB
 generalize w1.alloc (.cells #[.slice A n c] 22 (0, 0)) = W1 at *
 obtain ⟨Bs, HBs⟩ : ∃ Bs, Aside0 (w1.heap.size = Bs) := ⟨_, ⟨rfl⟩⟩
 obtain ⟨Di, HDi⟩ : ∃ Di, Aside0 (w.heap.size + 1 = Di) := ⟨_, ⟨rfl⟩⟩
 obtain ⟨Dd, HDd⟩ : ∃ Dd, Aside0 (w.heap.size = Dd) := ⟨_, ⟨rfl⟩⟩
 rw [HBs.out] at HBS HBSz ⊢
 rw [HDi.out] at HI1 HDz ⊢
 rw [show (Value.pointer (some { block := w.heap.size, off := 0 })) = .pointer (some ⟨Dd, 0, none⟩) by rw [HDd.out]]
 have HT1 := Aside0.mk (blk_keep HT.out HB1.out)
 have HU1 := Aside0.mk (HU.out.below HB1.out)
 have HA : Aside0 (∀ i cells t, W1.heap[i]? = some (.cells cells t (0, 0)) → t ≠ 124 → t ≠ 127 → ¬ PushE T u i) := ⟨by
  rintro i cells t h h1 h2 (rfl | e)
  ·
   rw [HT1.out] at h; exact h1 (Obj.cells.inj (Option.some.inj h)).2.1.symm
  ·
   obtain ⟨cur, hc⟩ := (HU1.out.block e).2
   rw [hc] at h; exact h2 (Obj.cells.inj (Option.some.inj h)).2.1.symm⟩
 refine wpIn_wide.1 (ListRange.wpIn_range (n := 9) (F := Fence.wide) rfl (by decide) (gf := 56) (lb := #[.pointer (some ⟨Bs, 0, none⟩)]) rfl trivial Tryz.call56
  (encs := fun x : Nat × Node => #[.int .i64 (x.1 : Int), vNode x.2]) (Kp := KpE W1.heap.size (PushE T u)) (L := bk (kids l d)) (w0 := W1)
  (fun lp J Jx W hWW _ _ hY h0 => bkNodes_in 8 lp Bs W1.heap.size (PushE T u) A c (kids l d) (by decide) (Nat.le_trans (stepOf_kids_le l d) HL.out) J Jx hY W (by rw [Hn.out]; exact (hWW.cell (p := ⟨Bs, 0, none⟩) HBSz.out).trans ((blk_cell HBS.out 0).trans rfl)) HBSz.out
   (HA.out Bs _ _ HBS.out (by decide) (by decide))
   (fun ad e hp => by
    obtain ⟨g, cap, e2, _, hlt, cells, hce⟩ := Kd.R_form HR1.out hp
    cases e2; cases e
    exact ⟨hlt, HA.out _ _ _ hce (by decide) (by decide)⟩)
   (by obtain ⟨_, _, e, _, hC⟩ := Kd.R_reads HR1.out; cases e; exact Kd.C_below hC hWW) h0)
  (fun h k => h.trans k) (fun W l o o' hl _ _ _ => KpE.put (Nat.le_refl _) W l o o' hl) (Below.refl _ _) (fun _ => rfl)
  (fun k W => ∃ u', W.heap[T]? = some (TODOc u') ∧ Todo W base u' (S ++ pushed l d dep k) ∧ RowOr W1 u u' ∧ Tch (PushE T u) W1 W)
  (fun _ _ _ => False)
  ?own (fun _ _ _ _ _ hs _ _ => hs) ⟨u, HT1.out, by rw [show pushed l d dep 0 = [] from rfl, List.append_nil]; exact HU1.out, RowOr.refl _ _, ⟨rfl, rfl, rfl, Nat.le_refl _, fun _ _ _ => rfl⟩⟩
  (fun x a' W => ∃ Nb, W1.heap.size ≤ Nb ∧ W.heap[Nb]? = some (boxN x.2) ∧ a' = { tmps := #[vDot d, .int .i64 (dep : Int), .pointer (some ⟨F, 0, none⟩), .pointer (some ⟨T, 0, none⟩), .pointer (some ⟨Dd, 0, none⟩), .pointer (some ⟨Di, 0, none⟩), undef, .pointer (some ⟨Nb, 0, none⟩), vFam mp, vDot d, .slice A n c, .func (.func 56) #[] #[.pointer (some ⟨Bs, 0, none⟩)], .int .i64 (x.1 : Int), vNode x.2, undef, undef, undef, undef, undef, undef], defers := [] })
  (fun x a' _ W W' row hs hg hr => by
   obtain ⟨Nb, h1, h2, h3⟩ := hs
   exact ⟨Nb, h1, (hg.block Nb (blk_lt h2) (fun e => by obtain ⟨_, o, ho, hc⟩ := hr Nb e.symm; rw [h2] at ho; cases ho; cases hc)).trans h2, h3⟩)
  ?assign ?body ?done ?stop)
 case own =>
  rintro k W W' row ⟨u', h1, h2, h4, h3⟩ hg hr
  have hnc : ∀ q cells t, W.heap[q]? = some (Obj.cells cells t (0, 0)) → W'.heap[q]? = W.heap[q]? := fun q cells t hq => hg.block q (blk_lt hq) (fun e => by obtain ⟨_, o, ho, hc⟩ := hr q e.symm; rw [hq] at ho; cases ho; cases hc)
  exact ⟨u', (hnc T _ _ h1).trans h1, h2.keep (fun g hgg => by obtain ⟨_, cur, hcur⟩ := h2.block hgg; exact hnc _ _ _ hcur), h4, h3.trans (Tch.grown (E := fun i => W1.heap.size ≤ i) hg (fun r e => (hr r e).1)) (fun i hi e => by omega)⟩
 case assign =>
  rintro lp k x W K hx ⟨u', h1, h2, h4, h3⟩ hK
  gi_wp2
  exact hK _ _ ((KeepsOthers.alloc _ _).from _) (KpE.below ((Below.refl _ W).alloc h3.size _)) ⟨u', blk_alloc h1 _, h2.below (Gr.alloc W _).below, h4, h3.trans (Tch.below (E := fun _ => False) (Gr.alloc W _).below) (fun _ _ h => h.elim)⟩ ⟨W.heap.size, h3.size, blk_new _ _, rfl⟩
 case body =>
  rintro lp k x a' W hx hl2 ⟨rr, hrr⟩ ⟨u', h1, h2, h4, h3⟩ ⟨Nb, hx1, hx2, rfl⟩
  obtain ⟨A', c', rfl⟩ := h2.slice
  obtain ⟨n', Hn'⟩ : ∃ n', Aside0 ((S ++ pushed l d dep k).length = n') := ⟨_, ⟨rfl⟩⟩
  rw [Hn'.out] at h1 h2 h4
  have hlt : n' ≤ 1000000 := by have h1 := Hn'.out; have h2 := pushed_length l d dep k; have h3 := HS.out; rw [List.length_append] at h1; omega
  have cT : W.cell? ⟨T, 0, none⟩ = _ := (blk_cell h1 0).trans rfl
  have n0 : W.cell? ⟨Nb, 0, none⟩ = _ := (blk_cell hx2 0).trans rfl
  have n1 : W.cell? ⟨Nb, 1, none⟩ = _ := (blk_cell hx2 1).trans rfl
  have n2 : W.cell? ⟨Nb, 2, none⟩ = _ := (blk_cell hx2 2).trans rfl
  have n3 : W.cell? ⟨Nb, 3, none⟩ = _ := (blk_cell hx2 3).trans rfl
  have n4 : W.cell? ⟨Nb, 4, none⟩ = _ := (blk_cell hx2 4).trans rfl
  have n5 : W.cell? ⟨Nb, 5, none⟩ = _ := (blk_cell hx2 5).trans rfl
  have hDI : W.heap[Di]? = some (.cells #[.int .i64 (dep : Int)] 3 (0, 0)) := (h3.block Di HDz.out (HA.out Di _ _ HI1.out (by decide) (by decide))).trans HI1.out
  have cD : W.cell? ⟨Di, 0, none⟩ = _ := (blk_cell hDI 0).trans rfl
  have hb0 : base ≤ W.heap.size := Nat.le_trans HBW.out (Nat.le_trans HB1.out.size h3.size)
  obtain ⟨u2, w2, hrun, htd, hgr, hat⟩ := run_append_step base 124 (.slice A' n' c') (S ++ pushed l d dep k) (dep, x.2) W.heap.size 1 (W.alloc (.cells (stepCells (dep, x.2)).toArray 127 (0, 0))) (h2.below (Gr.alloc W _).below) (blk_new _ _) (Nat.le_trans hb0 (by rw [World.size_alloc]; omega)) (by rw [Hn'.out]; omega)
  obtain ⟨A2, c2, rfl⟩ := htd.slice
  obtain ⟨m2, hn2⟩ : ∃ m2, (S ++ pushed l d dep k ++ [(dep, x.2)]).length = m2 := ⟨_, rfl⟩
  rw [hn2] at hrun htd hat
  clear hn2
  have hTne : some T ≠ (Value.slice A' n' c').ownBlock := fun e => by
   obtain ⟨_, cur, hc⟩ := h2.block e.symm
   rw [h1] at hc
   exact absurd (Obj.cells.inj (Option.some.inj hc)).2.1 (by decide)
  have hT2 : w2.heap[T]? = some (TODOc (.slice A' n' c')) := (hgr.block T (Nat.lt_of_lt_of_le (blk_lt h1) (by rw [World.size_alloc]; omega)) hTne).trans (blk_alloc h1 _)
  have cT2 : w2.cell? ⟨T, 0, none⟩ = _ := (blk_cell hT2 0).trans rfl
  have fT2 := blk_frozen hT2 0
  have HT2 := Aside0.mk hT2
  have HTne := Aside0.mk hTne
  have HRUN := Aside0.mk hrun
  have H4 := Aside0.mk h4
  have HAT := Aside0.mk hat
  have H1 := Aside0.mk h1
  have H2 := Aside0.mk h2
  have H3 := Aside0.mk h3
  have HTD := Aside0.mk htd
  have HGR := Aside0.mk hgr
  have HX := Aside0.mk hx
  clear h1 h2 h3 h4 hat hx hx1 hx2 hDI hb0 htd hgr hrun hT2 hTne
  obtain ⟨x0, x1⟩ := x
  dsimp only at n0 n1 n2 n3 n4 n5 ⊢
  gi_wp2_with (gi_at_builtin; refine wpListIn_append_eq rfl (.tmp 14) (.tmp 18) 124 rfl rfl rfl HRUN.out ?_)
  obtain ⟨u2, hu2⟩ : ∃ u2, Value.slice A2 m2 c2 = u2 := ⟨_, rfl⟩
  have HAT := HAT.out
  have HTD := HTD.out
  rw [hu2] at HAT HTD ⊢
  have hV : ∀ q, q ≠ T → (w2.setCell ⟨T, 0, none⟩ u2).heap[q]? = w2.heap[q]? := fun q hq => Below.heap_setCell w2 _ _ q hq
  have hq2 : ∀ q, q < W.heap.size → q ≠ T → (Value.slice A' n' c').ownBlock ≠ some q → (w2.setCell ⟨T, 0, none⟩ u2).heap[q]? = W.heap[q]? := fun q hq h1 h2 => by
   rw [hV q h1, HGR.out.block q (by rw [World.size_alloc]; omega) (fun e => h2 e.symm), Below.heap_alloc W _ q hq]
  have hsz : W.heap.size ≤ (w2.setCell ⟨T, 0, none⟩ u2).heap.size := by rw [World.size_setCell]; exact Nat.le_trans (by rw [World.size_alloc]; omega) HGR.out.size
  have hrow : RowOr W1 u u2 := by
   refine H4.out.trans (V := W) (b := .slice A' n' c') ?_ H3.out.size
   rcases HAT with e | e
   ·
    exact .inl e
   ·
    exact .inr ⟨_, e, by rw [World.size_alloc]; omega⟩
  have hnE : ∀ q, q < W1.heap.size → ¬ PushE T u q → q ≠ T ∧ (Value.slice A' n' c').ownBlock ≠ some q := fun q hq hE => ⟨fun e => hE (.inl e), fun e => by
   rcases H4.out with h | ⟨b, h, hb⟩
   ·
    exact hE (.inr (h ▸ e))
   ·
    rw [h] at e; have := Option.some.inj e; omega⟩
  refine ⟨⟨hsz, fun q o hB hq hoc => (hq2 q (blk_lt hq) (fun e => ?_) (fun e => ?_)).trans hq⟩, ⟨hsz, fun q hq hE => hq2 q (Nat.lt_of_lt_of_le hq H3.out.size) (hnE q hq hE).1 (hnE q hq hE).2⟩, u2, ?_, ?_, hrow, ?_⟩
  ·
   subst e; rw [H1.out] at hq; cases hq; cases hoc
  ·
   obtain ⟨_, cur, hc⟩ := H2.out.block e
   rw [hc] at hq; cases hq; cases hoc
  ·
   exact blk_set HT2.out 0 _
  ·
   rw [pushed_succ HX.out, ← List.append_assoc]
   refine HTD.keep (fun g hg => hV g (fun e => ?_))
   subst e
   obtain ⟨_, cur, hc⟩ := HTD.block hg
   rw [HT2.out] at hc
   exact absurd (Obj.cells.inj (Option.some.inj hc)).2.1 (by decide)
  ·
   refine H3.out.trans (E' := fun i => i = T ∨ (Value.slice A' n' c').ownBlock = some i) ⟨?_, ?_, ?_, hsz, fun q hq hE => hq2 q hq (fun e => hE (.inl e)) (fun e => hE (.inr e))⟩ (fun i hi hE => Classical.byContradiction fun hn => ?_)
   ·
    exact HGR.out.os
   ·
    exact HGR.out.tape
   ·
    exact HGR.out.output
   ·
    obtain ⟨h1, h2⟩ := hnE i hi hn
    exact hE.elim h1 h2
 case done =>
  rintro D W hD ⟨u', h1, h2, h4, h3⟩ hDK
  rw [pushed_all] at h2
  have HEND : Aside0 (W.heap[T]? = some (TODOc u') ∧ Todo W base u' (S ++ ((kids l d).map fun y => (dep, y)).reverse) ∧ RowOr w u u' ∧ Tch (PushE T u) w W) := ⟨h1, h2, (RowOr.refl w u).trans h4 HB1.out.size, (Tch.below HB1.out).trans h3 (fun i _ e => e)⟩
  have HD := Aside0.mk hD
  have HDK := Aside0.mk hDK
  clear h1 h2 h3 h4 hD hDK
  go_wp2
  refine leaves_of_marks2 (n0 := w.heap.size) [mkMark D] _ ⟨[D], rfl, by simp, fun E hE => ?_⟩ (fun W' hm => ⟨_, results_none rfl _ _ W', ⟨_, rfl⟩, u', (hm.block T (.inr fun o e => ?_)).trans HEND.out.1, HEND.out.2.1.keep (fun g hg => hm.block g (.inr fun o e => ?_)), HEND.out.2.2.1, HEND.out.2.2.2.marks hm⟩)
  ·
   simp only [List.mem_singleton] at hE
   subst hE
   exact ⟨Nat.le_trans HB1.out.size HD.out, HDK.out⟩
  ·
   rw [HEND.out.1] at e; cases e
  ·
   obtain ⟨_, cur, hc⟩ := HEND.out.2.1.block hg
   rw [hc] at e; cases e
 case stop =>
  rintro D c k W _ _ h _
  exact h.elim
/-- The types of the blocks that families.below keeps for itself. -/
def ownT (t : Nat) : Prop := t = 98 ∨ t = 127 ∨ t = 124
instance (t : Nat) : Decidable (ownT t) := by unfold ownT; infer_instance
structure KpT (n : Nat) (E : Nat → Prop) (W W' : World) : Prop where
 kp : KpE n E W W'
 own : ∀ (i : Nat) (c : Array Value) (t : Nat), W.heap[i]? = some (.cells c t (0, 0)) → ownT t → W'.heap[i]? = some (.cells c t (0, 0))
theorem KpT.trans {n : Nat} {E : Nat → Prop} {A B C : World} (h : KpT n E A B) (k : KpT n E B C) : KpT n E A C := ⟨h.kp.trans k.kp, fun i c t hi ht => k.own i c t (h.own i c t hi ht) ht⟩
theorem KpT.below {n : Nat} {E : Nat → Prop} {A B : World} (h : Below A.heap.size A B) (hn : n ≤ A.heap.size) : KpT n E A B := ⟨KpE.below (h.mono hn), fun i c t hi _ => blk_keep hi h⟩
theorem KpT.put {n m : Nat} {E : Nat → Prop} (hn : n ≤ m) (W : World) (l : Nat) (o o' : Obj) (hl : m ≤ l) (ho : W.heap[l]? = some o) (hc : o.isCells = false) : KpT n E W (W.putObj l o') :=
 ⟨KpE.put hn W l o o' hl, fun i c t hi _ => (World.putObj_heap_other (fun e => by subst e; rw [hi] at ho; cases ho; cases hc)).trans hi⟩
def famBl (mp : Nat) (v : Value) (vs : List Value) (i : Nat) : Prop := i = mp ∨ v.ownBlock = some i ∨ ∃ u ∈ vs, u.ownBlock = some i
theorem zip_of_mem {ks : List Dot} {vs : List Value} (hl : vs.length = ks.length) {u : Value} (hu : u ∈ vs) : ∃ d, (d, u) ∈ ks.zip vs := by
 obtain ⟨i, hi⟩ := List.getElem?_of_mem hu
 have hil := (List.getElem?_eq_some_iff.1 hi).1
 exact ⟨ks[i]'(by omega), List.mem_of_getElem? (i := i) (by rw [List.getElem?_zip_eq_some]; exact ⟨List.getElem?_eq_getElem _, hi⟩)⟩
theorem FamSt.typed {base : Nat} {W : World} {mp : Nat} {v : Value} {ks : List Dot} {vs : List Value} {fam : Dot → List Node} (h : FamSt base W mp v ks vs fam) {i : Nat} (hi : famBl mp v vs i) :
  ∃ (c : Array Value) (t : Nat), W.heap[i]? = some (.cells c t (0, 0)) ∧ (t = 142 ∨ t = 145 ∨ t = 35) := by
 rcases hi with rfl | e | ⟨u, hu, e⟩
 ·
  exact ⟨_, _, h.map.map, .inl rfl⟩
 ·
  rcases h.map.row.2 with ⟨rfl, _⟩ | ⟨g', c, cur, rfl, _, hcur, _⟩
  ·
   cases e
  ·
   cases e; exact ⟨_, _, hcur, .inr (.inl rfl)⟩
 ·
  obtain ⟨d, hd⟩ := zip_of_mem h.map.len hu
  obtain ⟨_, cur, hc⟩ := (h.rows d u hd).block e
  exact ⟨_, _, hc, .inr (.inr rfl)⟩
theorem FamSt.keep {base : Nat} {W V : World} {mp : Nat} {v : Value} {ks : List Dot} {vs : List Value} {fam : Dot → List Node} (h : FamSt base W mp v ks vs fam) (hk : ∀ i, famBl mp v vs i → V.heap[i]? = W.heap[i]?) : FamSt base V mp v ks vs fam :=
 ⟨h.map.keep (hk mp (.inl rfl)) (fun g hg => hk g (.inr (.inl hg))), fun d u hm => (h.rows d u hm).keep (fun g hg => hk g (.inr (.inr ⟨u, (List.of_mem_zip hm).2, hg⟩))), h.sep, h.none⟩
/-- The families of l, in blocks below n that are not in E. -/
def FamsIn (fb n : Nat) (E : Nat → Prop) (W : World) (mp : Nat) (l : List Node) : Prop := ∃ v ks vs, FamSt fb W mp v ks vs (kids l) ∧ ∀ i, famBl mp v vs i → i < n ∧ ¬ E i
theorem FamsIn.fams {fb n : Nat} {E : Nat → Prop} {W : World} {mp : Nat} {l : List Node} (h : FamsIn fb n E W mp l) : Fams fb W mp l := by
 obtain ⟨v, ks, vs, h, _⟩ := h
 exact ⟨v, ks, vs, h⟩
theorem FamsIn.of {fb n : Nat} {E : Nat → Prop} {W : World} {mp : Nat} {l : List Node} (h : Fams fb W mp l) (hn : W.heap.size ≤ n) (hE : ∀ (i : Nat) (c : Array Value) (t : Nat), E i → W.heap[i]? = some (.cells c t (0, 0)) → t ≠ 142 ∧ t ≠ 145 ∧ t ≠ 35) : FamsIn fb n E W mp l := by
 obtain ⟨v, ks, vs, h⟩ := h
 refine ⟨v, ks, vs, h, fun i hi => ?_⟩
 obtain ⟨c, t, hc, ht⟩ := h.typed hi
 refine ⟨Nat.lt_of_lt_of_le (blk_lt hc) hn, fun he => ?_⟩
 obtain ⟨h1, h2, h3⟩ := hE i c t he hc
 rcases ht with e | e | e
 ·
  exact h1 e
 ·
  exact h2 e
 ·
  exact h3 e
theorem FamsIn.kp {fb n : Nat} {E : Nat → Prop} {W V : World} {mp : Nat} {l : List Node} (h : FamsIn fb n E W mp l) (hk : KpE n E W V) : FamsIn fb n E V mp l := by
 obtain ⟨v, ks, vs, h, hb⟩ := h
 exact ⟨v, ks, vs, h.keep fun i hi => hk.2 i (hb i hi).1 (hb i hi).2, hb⟩
theorem FamsIn.below {fb n : Nat} {E : Nat → Prop} {W V : World} {mp : Nat} {l : List Node} (h : FamsIn fb n E W mp l) (hb : Below W.heap.size W V) : FamsIn fb n E V mp l := by
 obtain ⟨v, ks, vs, h, h2⟩ := h
 exact ⟨v, ks, vs, h.below hb, h2⟩
theorem FamsIn.tch {fb n : Nat} {E X : Nat → Prop} {W V : World} {mp : Nat} {l : List Node} (h : FamsIn fb n E W mp l) (hk : Tch X W V) (hX : ∀ (i : Nat) (c : Array Value) (t : Nat), X i → W.heap[i]? = some (.cells c t (0, 0)) → ownT t) : FamsIn fb n E V mp l := by
 obtain ⟨v, ks, vs, h, hb⟩ := h
 refine ⟨v, ks, vs, h.keep fun i hi => ?_, hb⟩
 obtain ⟨c, t, hc, ht⟩ := h.typed hi
 refine hk.block i (blk_lt hc) fun hx => ?_
 have := hX i c t hx hc
 rcases ht with rfl | rfl | rfl <;> revert this <;> decide
theorem mv_tch {X : Nat → Prop} {b : Nat} {W V : World} (hk : Tch X W V) (hX : ∀ i, i < W.heap.size → X i → b ≤ i ∧ ∃ (c : Array Value) (t : Nat), W.heap[i]? = some (.cells c t (0, 0)) ∧ ownT t) : ListRange.Mv ownT b W V :=
 ⟨hk.os, hk.tape, hk.output, hk.size, fun i hi hc => hk.block i hi fun hx => by
  obtain ⟨h1, c, t, h2, h3⟩ := hX i hi hx
  rcases hc with h | h
  ·
   omega
  ·
   exact h c t h2 h3⟩
/-- What waits on the stack, its top at the end. -/
structure Stk (l : List Node) (dep : Nat) (d : Dot) (k : Nat) (S : List (Nat × Node)) : Prop where
 rest : restOf l S.reverse = (belowOf l dep d).drop k
 way : ∀ p ∈ S, ∃ V, Path l p.2.f0 (p.2 :: V) ∧ p.1 ≤ V.length + dep
theorem Stk.le {l : List Node} {dep : Nat} {d : Dot} {k : Nat} {S : List (Nat × Node)} (h : Stk l dep d k S) : S.length ≤ (belowOf l dep d).length := by
 have := restOf_le l S.reverse
 rw [h.rest, List.length_drop, List.length_reverse] at this
 omega
theorem Stk.start {l : List Node} (hs : Store l) {d : Dot} {U : List Node} (h : Path l d U) (dep : Nat) : Stk l dep d 0 ((kids l d).map fun y => (dep, y)).reverse := by
 refine ⟨by rw [List.reverse_reverse, restOf_kids hs h dep, List.drop_zero], fun p hp => ?_⟩
 obtain ⟨y, hy, rfl⟩ := List.mem_map.1 (List.mem_reverse.1 hp)
 obtain ⟨hy, e⟩ := mem_kids.1 hy
 exact ⟨U, .step d U y h hy e, by simp⟩
theorem Stk.empty {l : List Node} {dep : Nat} {d : Dot} {k : Nat} (h : Stk l dep d k []) : (belowOf l dep d).length ≤ k := by
 have := congrArg List.length h.rest
 rw [List.length_drop] at this
 simp [restOf] at this
 omega
theorem Stk.step {l : List Node} (hs : Store l) {dep : Nat} {d : Dot} {k : Nat} {S : List (Nat × Node)} {p : Nat × Node} (h : Stk l dep d k (S ++ [p])) :
  (belowOf l dep d)[k]? = some p ∧ Stk l dep d (k + 1) (S ++ ((kids l p.2.f0).map fun y => (p.1 + 1, y)).reverse) := by
 obtain ⟨V, hV, hp⟩ := h.way p (by simp)
 have hr := h.rest
 rw [List.reverse_append, List.reverse_singleton, List.singleton_append, restOf_cons hs hV] at hr
 have hk : k < (belowOf l dep d).length := by
  refine Nat.lt_of_not_le fun hk => ?_
  rw [List.drop_eq_nil_of_le hk] at hr; cases hr
 rw [List.drop_eq_getElem_cons hk] at hr
 refine ⟨by rw [List.getElem?_eq_getElem hk, ← (List.cons.inj hr).1], by rw [List.reverse_append, List.reverse_reverse]; exact (List.cons.inj hr).2, fun q hq => ?_⟩
 rcases List.mem_append.1 hq with hq | hq
 ·
  exact h.way q (List.mem_append_left _ hq)
 ·
  obtain ⟨y, hy, rfl⟩ := List.mem_map.1 (List.mem_reverse.1 hq)
  obtain ⟨hy, e⟩ := mem_kids.1 hy
  exact ⟨p.2 :: V, .step _ _ y hV hy e, by simp; omega⟩
abbrev boxS (p : Nat × Node) : Obj := .cells #[.int .i64 p.2.f0.f0, .int .i64 p.2.f0.f1, .int .i64 p.2.f1.f0, .int .i64 p.2.f1.f1, .int .i64 p.2.f2, .int .i32 p.2.f3, .int .i64 (p.1 : Int)] 127 (0, 0)
theorem Todo.cap {W : World} {base g m c : Nat} {S : List (Nat × Node)} (h : Todo W base (.slice (some ⟨g, 0, none⟩) m c) S) : m ≤ c ∧ c ≤ maxLen := by
 rcases h.2 with ⟨e, _⟩ | ⟨g', c', cur, e, _, _, h1, h2, _⟩
 ·
  cases e
 ·
  cases e; exact ⟨h1, h2⟩
/-- How the loop stands after k rounds. -/
structure BlwF (fb n₀ : Nat) (E : Nat → Prop) (J : Nat → World → Prop) (mp F T b0 : Nat) (l : List Node) (dep : Nat) (d : Dot) (k : Nat) (S : List (Nat × Node)) (u : Value) (W : World) : Prop where
 stk : Stk l dep d k S
 todoC : W.heap[T]? = some (TODOc u)
 row : Todo W b0 u S
 low : b0 ≤ T ∧ b0 ≤ W.heap.size
 fam : FamsIn fb n₀ E W mp l
 box : W.heap[F]? = some (boxF mp)
 j : J k W
theorem BlwF.mv {b0 : Nat} {W V : World} {b T : Nat} {u : Value} (hb : b ≤ b0) (hT : b0 ≤ T) (hC : W.heap[T]? = some (TODOc u)) (hR : ∀ g, u.ownBlock = some g → b0 ≤ g ∧ ∃ cur, W.heap[g]? = some (.cells cur 127 (0, 0))) (h : Tch (PushE T u) W V) : ListRange.Mv ownT b W V := by
 refine mv_tch h fun i hi hx => ?_
 rcases hx with rfl | e
 ·
  exact ⟨Nat.le_trans hb hT, _, _, hC, .inr (.inr rfl)⟩
 ·
  obtain ⟨h1, cur, h2⟩ := hR i e
  exact ⟨Nat.le_trans hb h1, _, _, h2, .inr (.inl rfl)⟩
theorem BlwF.fams {fb n₀ : Nat} {E : Nat → Prop} {mp : Nat} {l : List Node} {b0 : Nat} {W V : World} {T : Nat} {u : Value} (hf : FamsIn fb n₀ E W mp l) (hC : W.heap[T]? = some (TODOc u)) (hR : ∀ g, u.ownBlock = some g → b0 ≤ g ∧ ∃ cur, W.heap[g]? = some (.cells cur 127 (0, 0))) (h : Tch (PushE T u) W V) : FamsIn fb n₀ E V mp l := by
 refine hf.tch h fun i c t hx hi => ?_
 rcases hx with rfl | e
 ·
  rw [hC] at hi; cases hi; exact .inr (.inr rfl)
 ·
  obtain ⟨_, cur, h2⟩ := hR i e
  rw [h2] at hi; cases hi; exact .inr (.inl rfl)
theorem push_far {W V : World} {b0 T : Nat} {u : Value} (hC : W.heap[T]? = some (TODOc u)) (hR : ∀ g, u.ownBlock = some g → b0 ≤ g ∧ ∃ cur, W.heap[g]? = some (.cells cur 127 (0, 0))) (h : Tch (PushE T u) W V) {i : Nat} {c : Array Value} {t : Nat} (hi : W.heap[i]? = some (.cells c t (0, 0))) (ht : t ≠ 127 ∧ t ≠ 124) : V.heap[i]? = some (.cells c t (0, 0)) := by
 refine (h.block i (blk_lt hi) fun hx => ?_).trans hi
 rcases hx with rfl | e
 ·
  rw [hC] at hi; cases hi; exact ht.2 rfl
 ·
  obtain ⟨_, cur, h2⟩ := hR i e
  rw [h2] at hi; cases hi; exact ht.1 rfl
set_option maxHeartbeats 2000000 in
set_option maxRecDepth 100000 in
theorem below_in (n lp fb n₀ mp : Nat) (E : Nat → Prop) (l : List Node) (d : Dot) (dep : Nat) (U : List Node) (hn : 1 ≤ n) (hs : Store l) (hU : Path l d U) (hl : l.length ≤ 1000000) (hlen : (belowOf l dep d).length ≤ 1000000) (hdep : dep ≤ 1000000) (J Jx : Nat → World → Prop) (W : World)
  (hm : ∀ k A B, ListRange.Mv ownT W.heap.size A B → J k A → J k B)
  (hY : ∀ k x V, (belowOf l dep d)[k]? = some x → J k V → YieldAt Fence.wide (n - 1) Tryz.prog lp #[.int .i64 ((x : Nat × Node).1 : Int), vNode x.2] V fun e V' =>
   (e = .returned (.bool true) ∧ J (k + 1) V' ∧ KpT n₀ E V V') ∨ (e = .returned (.bool false) ∧ Jx (k + 1) V'))
  (hF : FamsIn fb n₀ E W mp l) (h0 : J 0 W) :
  CallsIn Fence.wide n Tryz.prog 63 #[vFam mp, vDot d, .int .i64 (dep : Int), .func (.yield lp) #[] #[]] W fun e V => (∃ v, e = .returned v) ∧
   (J (belowOf l dep d).length V ∨ ∃ k, k ≤ (belowOf l dep d).length ∧ Jx k V) := by
 have HM := Aside0.mk hm
 have HY := Aside0.mk hY
 have HS := Aside0.mk hs
 have HU := Aside0.mk hU
 have HL := Aside0.mk hl
 have HLEN := Aside0.mk hlen
 have HDEP := Aside0.mk hdep
 have HF := Aside0.mk hF
 have HJ := Aside0.mk h0
 clear hm hY hs hU hl hlen hdep hF h0
 refine callsIn_of_wp Tryz.func63 rfl trivial ?_ rfl
 simp only [Tryz.ntmps63, List.size_toArray, List.length_cons, List.length_nil, Nat.reduceAdd, Nat.reduceSub, Array.replicate_succ, Array.replicate_zero, List.push_toArray, List.append_toArray, List.nil_append, List.cons_append]
 gi_wp2
 have hgr : Gr W (((W.alloc (boxF mp)).alloc (dotC d)).alloc (TODOc (.slice none 0 0))) := ((Gr.alloc _ _).trans (Gr.alloc _ _)).trans (Gr.alloc _ _)
 have HF1 := Aside0.mk (HF.out.below hgr.below)
 have HBF : Aside0 ((((W.alloc (boxF mp)).alloc (dotC d)).alloc (TODOc (.slice none 0 0))).heap[W.heap.size]? = some (boxF mp)) := ⟨blk_alloc (blk_alloc (blk_new _ _) _) _⟩
 have HBT : Aside0 ((((W.alloc (boxF mp)).alloc (dotC d)).alloc (TODOc (.slice none 0 0))).heap[W.heap.size + 1 + 1]? = some (TODOc (.slice none 0 0))) := ⟨by have := blk_new ((W.alloc (boxF mp)).alloc (dotC d)) (TODOc (.slice none 0 0)); rwa [World.size_alloc, World.size_alloc] at this⟩
 have HSZ : Aside0 (W.heap.size + 3 = (((W.alloc (boxF mp)).alloc (dotC d)).alloc (TODOc (.slice none 0 0))).heap.size) := ⟨by rw [World.size_alloc, World.size_alloc, World.size_alloc]⟩
 have HMV : Aside0 (ListRange.Mv ownT W.heap.size W (((W.alloc (boxF mp)).alloc (dotC d)).alloc (TODOc (.slice none 0 0)))) := ⟨ListRange.Mv.below hgr.below⟩
 clear hgr HF
 generalize ((W.alloc (boxF mp)).alloc (dotC d)).alloc (TODOc (.slice none 0 0)) = W1 at *
 obtain ⟨b0, Hb0⟩ : ∃ b0, Aside0 (W.heap.size = b0) := ⟨_, ⟨rfl⟩⟩
 obtain ⟨T, HT⟩ : ∃ T, Aside0 (W.heap.size + 1 + 1 = T) := ⟨_, ⟨rfl⟩⟩
 obtain ⟨Dd, HD⟩ : ∃ Dd, Aside0 (W.heap.size + 1 = Dd) := ⟨_, ⟨rfl⟩⟩
 obtain ⟨F, HFe⟩ : ∃ F, Aside0 (W.heap.size = F) := ⟨_, ⟨rfl⟩⟩
 rw [HT.out] at HBT
 rw [HFe.out] at HBF
 rw [show (Value.pointer (some { block := W.heap.size + 1 + 1, off := 0 })) = .pointer (some ⟨T, 0, none⟩) by rw [HT.out], show (Value.pointer (some { block := W.heap.size + 1, off := 0 })) = .pointer (some ⟨Dd, 0, none⟩) by rw [HD.out], show (Value.pointer (some { block := W.heap.size, off := 0 })) = .pointer (some ⟨F, 0, none⟩) by rw [HFe.out]]
 have HJ1 := Aside0.mk (HM.out 0 W W1 HMV.out HJ.out)
 have hlow : b0 ≤ T ∧ b0 ≤ W1.heap.size := by have h1 := HSZ.out; have h2 := Hb0.out; have h3 := HT.out; omega
 have HLOW := Aside0.mk hlow
 refine ⟨trivial, CallsIn.mono (callsIn_wide.2 (push_call fb b0 mp F T l d dep [] (.slice none 0 0) W1 HF1.out.fams HBF.out HBT.out (Todo.nil _ _) hlow.2 HL.out (by rw [List.length_nil]; have h1 := stepOf_kids_le l d; have h2 := HL.out; omega))) ?_⟩
 rintro e W2 ⟨⟨r, rfl⟩, u, hT2, hu2, hro, htc⟩
 have HSTART : Aside0 (BlwF fb n₀ E J mp F T b0 l dep d 0 ((kids l d).map fun y => (dep, y)).reverse u W2) := ⟨by
  have hR : ∀ g, (Value.slice none 0 0).ownBlock = some g → b0 ≤ g ∧ ∃ cur, W1.heap[g]? = some (.cells cur 127 (0, 0)) := fun g hg => by cases hg
  exact ⟨Stk.start HS.out HU.out dep, hT2, by simpa using hu2, ⟨hlow.1, Nat.le_trans hlow.2 htc.size⟩, BlwF.fams HF1.out HBT.out hR htc, push_far HBT.out hR htc HBF.out ⟨by decide, by decide⟩, HM.out 0 W1 W2 (BlwF.mv (Nat.le_of_eq Hb0.out) hlow.1 HBT.out hR htc) HJ1.out⟩⟩
 clear hT2 hu2 hro htc hlow HF1 HBF HBT HMV HJ1
 gi_wp2
 gi_loopg [] (belowOf l dep d).length (fun gk wr => ∃ (k : Nat) (S : List (Nat × Node)) (u : Value), gk + k = (belowOf l dep d).length ∧ Aside0 (BlwF fb n₀ E J mp F T b0 l dep d k S u wr))
 case atStart => exact ⟨0, _, u, rfl, HSTART⟩
 case round =>
  obtain ⟨k, S, u', hk, HB⟩ := hrel
  clear HSTART
  rcases List.eq_nil_or_concat S with rfl | ⟨S', p, rfl⟩
  ·
   obtain ⟨A', c', rfl⟩ := HB.out.row.slice
   have cT : wr.cell? ⟨T, 0, none⟩ = _ := (blk_cell HB.out.todoC 0).trans rfl
   have HEND : Aside0 (J (belowOf l dep d).length wr) := ⟨by have h1 := HB.out.stk.empty; have h2 := HB.out.j; rwa [show k = (belowOf l dep d).length by omega] at h2⟩
   gi_wp2
   go_end0
   exact ⟨⟨_, rfl⟩, .inl HEND.out⟩
  ·
   rw [List.concat_eq_append] at HB
   obtain ⟨g, c, rfl, hg, ⟨cur, hcur⟩, hcells, htd⟩ := HB.out.row.last
   obtain ⟨hx, hst⟩ := HB.out.stk.step HS.out
   obtain ⟨m, Hm⟩ : ∃ m, Aside0 (S'.length = m) := ⟨_, ⟨rfl⟩⟩
   rw [Hm.out] at hcells htd HB
   have cT : wr.cell? ⟨T, 0, none⟩ = _ := (blk_cell HB.out.todoC 0).trans rfl
   have hm6 : m ≤ 1000000 := by have h1 := hst.le; have h2 := HLEN.out; have h3 := Hm.out; rw [List.length_append] at h1; omega
   have hwl : wrap64 (((m + 1 : Nat) : Int) - 1) = (m : Int) := by unfold wrap64; omega
   have hgt : decide (((m + 1 : Nat) : Int) > 0) = true := decide_eq_true (by omega)
   have p0 : wr.cell? ⟨g, m * 7, none⟩ = some (.int .i64 p.2.f0.f0) := hcells 0 _ rfl
   have p1 : wr.cell? ⟨g, m * 7 + 1, none⟩ = some (.int .i64 p.2.f0.f1) := hcells 1 _ rfl
   have p2 : wr.cell? ⟨g, m * 7 + 2, none⟩ = some (.int .i64 p.2.f1.f0) := hcells 2 _ rfl
   have p3 : wr.cell? ⟨g, m * 7 + 3, none⟩ = some (.int .i64 p.2.f1.f1) := hcells 3 _ rfl
   have p4 : wr.cell? ⟨g, m * 7 + 4, none⟩ = some (.int .i64 p.2.f2) := hcells 4 _ rfl
   have p5 : wr.cell? ⟨g, m * 7 + 5, none⟩ = some (.int .i32 p.2.f3) := hcells 5 _ rfl
   have p6 : wr.cell? ⟨g, m * 7 + 6, none⟩ = some (.int .i64 (p.1 : Int)) := hcells 6 _ rfl
   have HX := Aside0.mk hx
   have HST := Aside0.mk hst
   have HTD := Aside0.mk htd
   have HCUR := Aside0.mk hcur
   have HG := Aside0.mk hg
   clear hx hst htd hcells hcur hg
   have hT1 : (wr.alloc (boxS p)).heap[T]? = some (TODOc (.slice (some ⟨g, 0, none⟩) (m + 1) c)) := blk_alloc HB.out.todoC _
   have cT1 : (wr.alloc (boxS p)).cell? ⟨T, 0, none⟩ = _ := (blk_cell hT1 0).trans rfl
   have fT1 := blk_frozen hT1 0
   have hmc : m ≤ c := HTD.out.cap.1
   have hmx : c ≤ 9223372036854775807 := HTD.out.cap.2
   obtain ⟨Bx, HBx⟩ : ∃ Bx, Aside0 (wr.heap.size = Bx) := ⟨_, ⟨rfl⟩⟩
   have hBT : Bx ≠ T := fun e => by have := blk_lt HB.out.todoC; have := HBx.out; omega
   have hX3 : ((wr.alloc (boxS p)).setCell ⟨T, 0, none⟩ (.slice (some ⟨g, 0, none⟩) m c)).heap[Bx]? = some (boxS p) := by rw [Below.heap_setCell _ _ _ Bx hBT, ← HBx.out]; exact blk_new _ _
   have q0 : ((wr.alloc (boxS p)).setCell ⟨T, 0, none⟩ (.slice (some ⟨g, 0, none⟩) m c)).cell? ⟨Bx, 0, none⟩ = _ := (blk_cell hX3 0).trans rfl
   have q1 : ((wr.alloc (boxS p)).setCell ⟨T, 0, none⟩ (.slice (some ⟨g, 0, none⟩) m c)).cell? ⟨Bx, 1, none⟩ = _ := (blk_cell hX3 1).trans rfl
   have q2 : ((wr.alloc (boxS p)).setCell ⟨T, 0, none⟩ (.slice (some ⟨g, 0, none⟩) m c)).cell? ⟨Bx, 2, none⟩ = _ := (blk_cell hX3 2).trans rfl
   have q3 : ((wr.alloc (boxS p)).setCell ⟨T, 0, none⟩ (.slice (some ⟨g, 0, none⟩) m c)).cell? ⟨Bx, 3, none⟩ = _ := (blk_cell hX3 3).trans rfl
   have q4 : ((wr.alloc (boxS p)).setCell ⟨T, 0, none⟩ (.slice (some ⟨g, 0, none⟩) m c)).cell? ⟨Bx, 4, none⟩ = _ := (blk_cell hX3 4).trans rfl
   have q5 : ((wr.alloc (boxS p)).setCell ⟨T, 0, none⟩ (.slice (some ⟨g, 0, none⟩) m c)).cell? ⟨Bx, 5, none⟩ = _ := (blk_cell hX3 5).trans rfl
   have q6 : ((wr.alloc (boxS p)).setCell ⟨T, 0, none⟩ (.slice (some ⟨g, 0, none⟩) m c)).cell? ⟨Bx, 6, none⟩ = _ := (blk_cell hX3 6).trans rfl
   rw [← HBx.out] at q0 q1 q2 q3 q4 q5 q6
   have HX3 := Aside0.mk hX3
   have HMV3 : Aside0 (ListRange.Mv ownT b0 wr ((wr.alloc (boxS p)).setCell ⟨T, 0, none⟩ (.slice (some ⟨g, 0, none⟩) m c))) := ⟨by
    refine (ListRange.Mv.below (Gr.alloc wr (boxS p)).below).trans (mv_tch (X := fun i => i = T) ⟨rfl, rfl, rfl, by rw [World.size_setCell]; exact Nat.le_refl _, fun i hi hne => Below.heap_setCell _ _ _ i hne⟩ fun i hi e => ?_)
    subst e
    exact ⟨HB.out.low.1, _, _, hT1, .inr (.inr rfl)⟩⟩
   have HT3 : Aside0 (((wr.alloc (boxS p)).setCell ⟨T, 0, none⟩ (.slice (some ⟨g, 0, none⟩) m c)).heap[T]? = some (TODOc (.slice (some ⟨g, 0, none⟩) m c))) := ⟨blk_set hT1 0 _⟩
   have HR3 : Aside0 (Todo ((wr.alloc (boxS p)).setCell ⟨T, 0, none⟩ (.slice (some ⟨g, 0, none⟩) m c)) b0 (.slice (some ⟨g, 0, none⟩) m c) S') := ⟨(HTD.out.below (Gr.alloc wr (boxS p)).below).keep fun q hq => Below.heap_setCell _ _ _ q (fun e => by
    cases hq
    have h1 := blk_alloc HCUR.out (boxS p)
    have e' : g = T := e
    rw [e', hT1] at h1
    exact absurd (Obj.cells.inj (Option.some.inj h1)).2.1 (by decide))⟩
   have HF3 : Aside0 (((wr.alloc (boxS p)).setCell ⟨T, 0, none⟩ (.slice (some ⟨g, 0, none⟩) m c)).heap[F]? = some (boxF mp)) := ⟨by
    rw [Below.heap_setCell _ _ _ F (fun e => by
     have h1 := blk_alloc HB.out.box (boxS p)
     have e' : F = T := e
     rw [e', hT1] at h1
     exact absurd (Obj.cells.inj (Option.some.inj h1)).2.1 (by decide))]
    exact blk_alloc HB.out.box _⟩
   have HFM3 : Aside0 (FamsIn fb n₀ E ((wr.alloc (boxS p)).setCell ⟨T, 0, none⟩ (.slice (some ⟨g, 0, none⟩) m c)) mp l) := ⟨(HB.out.fam.below (Gr.alloc wr (boxS p)).below).tch (X := fun i => i = T) ⟨rfl, rfl, rfl, by rw [World.size_setCell]; exact Nat.le_refl _, fun i hi hne => Below.heap_setCell _ _ _ i hne⟩ fun i cc t e hc => by
    subst e
    rw [hT1] at hc; cases hc; exact .inr (.inr rfl)⟩
   have HJ3 := Aside0.mk (HM.out k _ _ (HMV3.out.mono (Nat.le_of_eq Hb0.out)) HB.out.j)
   have HLO := Aside0.mk HB.out.low
   obtain ⟨fn, tmps, assign, body, hy, hR⟩ := HY.out k p _ HX.out HJ3.out
   have HRR := Aside0.mk hR
   have hkl : k < (belowOf l dep d).length := (List.getElem?_eq_some_iff.1 HX.out).1
   have HP1 : Aside0 (p.1 ≤ 2000000) := ⟨by
    obtain ⟨V, hV, hp⟩ := HB.out.stk.way p (by simp)
    have h1 := hV.le HS.out
    have h2 := HL.out
    have h3 := HDEP.out
    simp only [List.length_cons] at h1
    omega⟩
   clear hT1 hBT hR
   gi_wp2
   refine HRR.out.mono ?_
   clear q0 q1 q2 q3 q4 q5 q6 cT1 fT1 p0 p1 p2 p3 p4 p5 p6 cT
   rintro e V (⟨rfl, hJ4, hK4⟩ | ⟨rfl, hJx4⟩)
   ·
    have hX4 := hK4.own _ _ _ HX3.out (.inr (.inl rfl))
    have hT4 := hK4.own _ _ _ HT3.out (.inr (.inr rfl))
    have hF4 := hK4.own _ _ _ HF3.out (.inl rfl)
    have hR4 : Todo V b0 (.slice (some ⟨g, 0, none⟩) m c) S' := HR3.out.keep fun q hq => by
     obtain ⟨_, cur, hc⟩ := HR3.out.block hq
     exact (hK4.own _ _ _ hc (.inr (.inl rfl))).trans hc.symm
    have hM4 := HFM3.out.kp hK4.kp
    rw [← HBx.out] at hX4
    have q0 : V.cell? ⟨wr.heap.size, 0, none⟩ = _ := (blk_cell hX4 0).trans rfl
    have q1 : V.cell? ⟨wr.heap.size, 1, none⟩ = _ := (blk_cell hX4 1).trans rfl
    have q6 : V.cell? ⟨wr.heap.size, 6, none⟩ = _ := (blk_cell hX4 6).trans rfl
    have hp1 := HP1.out
    have hwd : wrap64 ((p.1 : Int) + 1) = ((p.1 + 1 : Nat) : Int) := by unfold wrap64; omega
    have HT4 := Aside0.mk hT4
    have HF4 := Aside0.mk hF4
    have HR4 := Aside0.mk hR4
    have HM4 := Aside0.mk hM4
    have HJ4 := Aside0.mk hJ4
    have HLV : Aside0 (b0 ≤ V.heap.size) := ⟨Nat.le_trans (Nat.le_trans HLO.out.2 HMV3.out.size) hK4.kp.1⟩
    clear hX4 hT4 hF4 hR4 hM4 hJ4 hK4 hp1
    gi_wp2
    rw [show ((p.1 : Int) + 1) = ((p.1 + 1 : Nat) : Int) by omega]
    refine ⟨trivial, CallsIn.mono (callsIn_wide.2 (push_call fb b0 mp F T l p.2.f0 (p.1 + 1) S' (.slice (some ⟨g, 0, none⟩) m c) V HM4.out.fams HF4.out HT4.out HR4.out HLV.out HL.out (by have h1 := HST.out.le; have h2 := HLEN.out; rw [List.length_append, List.length_reverse, List.length_map] at h1; omega))) ?_⟩
    rintro e V2 ⟨⟨r2, rfl⟩, u2, hT5, hu5, hro, htc⟩
    have HB5 : Aside0 (BlwF fb n₀ E J mp F T b0 l dep d (k + 1) (S' ++ ((kids l p.2.f0).map fun y => (p.1 + 1, y)).reverse) u2 V2) := ⟨⟨HST.out, hT5, hu5, ⟨HLO.out.1, Nat.le_trans HLV.out htc.size⟩, BlwF.fams HM4.out HT4.out (fun q hq => HR4.out.block hq) htc, push_far HT4.out (fun q hq => HR4.out.block hq) htc HF4.out ⟨by decide, by decide⟩, HM.out (k + 1) V V2 (BlwF.mv (Nat.le_of_eq Hb0.out) HLO.out.1 HT4.out (fun q hq => HR4.out.block hq) htc) HJ4.out⟩⟩
    clear hT5 hu5 hro htc
    gi_wp2
    gi_roundg (gk - 1)
    case measure => omega
    case rel => exact ⟨k + 1, _, u2, by omega, HB5⟩
   ·
    gi_wp2
    refine bodyPost_ret (results_none rfl _ _ _) rfl ?_
    exact ⟨⟨_, rfl⟩, .inr ⟨k + 1, hkl, hJx4⟩⟩
theorem yieldAt_wide {a b : Nat} {P : Program} {l : Nat} {args : Array Value} {W : World} {R : Ending → World → Prop} (h : YieldAt Fence.wide a P l args W R) : YieldAt Fence.wide b P l args W R := by
 obtain ⟨fn, tmps, assign, body, h1, h2, h3⟩ := h
 exact ⟨fn, tmps, assign, body, h1, h2, fun c cs _ => h3 c cs (room_wide _)⟩
set_option maxHeartbeats 1000000 in
set_option maxRecDepth 100000 in
theorem all_moves (fb mp Fb : Nat) (E : Nat → Prop) (l : List Node) (w : World) (hs : Store l) (hl : l.length ≤ 1000000) (hB : w.heap[Fb]? = some (boxF mp)) (hF : Fams fb w mp l)
  (hE : ∀ (i : Nat) (c : Array Value) (t : Nat), E i → w.heap[i]? = some (.cells c t (0, 0)) → t = 22 ∨ t = 25 ∨ t = 3) :
  ListRange.Moves Fence.wide 9 Tryz.prog 62 #[.pointer (some ⟨Fb, 0, none⟩)] (fun x : Nat × Node => #[.int .i64 (x.1 : Int), vNode x.2]) (KpT w.heap.size E) ownT (ordOf l) w := by
 have HFI : Aside0 (FamsIn fb w.heap.size E w mp l) := ⟨FamsIn.of hF (Nat.le_refl _) fun i c t he hc => by rcases hE i c t he hc with rfl | rfl | rfl <;> decide⟩
 have HS := Aside0.mk hs
 have HL := Aside0.mk hl
 have HB := Aside0.mk hB
 clear hs hl hB hF hE
 intro lp J Jx W hWW hJ hJx hY h0
 have HJ := Aside0.mk hJ
 have HY := Aside0.mk hY
 have H0 := Aside0.mk h0
 have HW := Aside0.mk hWW
 have hb := blk_keep HB.out hWW
 have cF : W.cell? ⟨Fb, 0, none⟩ = _ := (blk_cell hb 0).trans rfl
 have HLE : Aside0 ((belowOf l 0 ⟨0, 0⟩).length ≤ 1000000) := ⟨Nat.le_trans (ord_le HS.out) HL.out⟩
 clear hJ hJx hY h0 hWW hb
 refine callsIn_of_wp Tryz.func62 rfl trivial ?_ rfl
 simp only [Tryz.ntmps62, List.size_toArray, List.length_cons, List.length_nil, Nat.reduceAdd, Nat.reduceSub, Array.replicate_succ, Array.replicate_zero, List.push_toArray, List.append_toArray, List.nil_append, List.cons_append]
 gi_wp2
 refine ⟨trivial, CallsIn.mono (below_in 8 lp fb w.heap.size mp E l ⟨0, 0⟩ 0 [] (by decide) HS.out Path.root HL.out HLE.out (by decide) J Jx W HJ.out (fun k x V hx hj => yieldAt_wide (HY.out k x V hx hj)) (HFI.out.below HW.out) H0.out) ?_⟩
 rintro e V ⟨⟨r, rfl⟩, h⟩
 gi_wp2
 go_end0
 exact ⟨⟨_, rfl⟩, h⟩
set_option maxHeartbeats 1000000 in
set_option maxRecDepth 100000 in
theorem all_fn (A0 : Option Addr) (n c0 : Nat) (l0 : List Node) (w : World) (hn : l0.length = n) (hr0 : Kd.C k35 w A0 n l0) (hc0 : n ≤ c0) (hl : l0.length ≤ 1000000) :
  Calls Tryz.prog 47 #[.slice A0 n c0] w fun e w' => ∃ Fb mp, e = .returned (.func (.func 62) #[] #[.pointer (some ⟨Fb, 0, none⟩)]) ∧ w'.heap[Fb]? = some (boxF mp) ∧ Fams w.heap.size w' mp (if storeOk l0 then l0 else []) ∧ Below w.heap.size w w' := by
 obtain ⟨b, Hb⟩ : ∃ b, Aside0 (storeOk l0 = b) := ⟨_, ⟨rfl⟩⟩
 have hval := store_Valid.calls A0 c0 l0 b w (by rw [hn]; exact hr0) (by rw [hn]; exact hc0) (by unfold store_Valid.f; rw [if_pos hl, Hb.out])
 rw [hn] at hval
 have HV := Aside0.mk hval
 have HR := Aside0.mk hr0
 have HC := Aside0.mk hc0
 have HL := Aside0.mk hl
 have Hn := Aside0.mk hn
 rw [Hb.out]
 clear hval hr0 hc0 hl hn
 go_enter Tryz.func47, Tryz.ntmps47
 go_wp2_with fail
 refine HV.out.mono ?_
 rintro e w1 ⟨rfl, hb⟩
 have HB := Aside0.mk hb
 clear hb
 cases b with
 | true =>
  have HM := made_call A0 c0 l0 w1 (by rw [Hn.out]; exact Kd.C_below HR.out HB.out) (by rw [Hn.out]; exact HC.out) HL.out (store_of Hb.out)
  rw [Hn.out] at HM
  have HM := Aside0.mk HM
  go_wp2_with fail
  refine HM.out.mono ?_
  rintro e w2 ⟨mp, rfl, hf, hb2⟩
  have HF := Aside0.mk (hf.lower HB.out.size)
  have HB2 := Aside0.mk (below_more HB.out hb2)
  clear hf hb2
  go_wp2
  go_ret
  exact ⟨_, rfl, mp, blk_new _ _, HF.out.below (Gr.alloc _ _).below, below_alloc HB2.out _⟩
 | false =>
  have HM := Aside0.mk (made_call none 0 [] w1 ⟨rfl, by simp, fun h => absurd h (by simp)⟩ (Nat.le_refl _) (by simp) ⟨fun x hx => (by cases hx), List.Pairwise.nil⟩)
  go_wp2_with fail
  refine HM.out.mono ?_
  rintro e w2 ⟨mp, rfl, hf, hb2⟩
  have HF := Aside0.mk (hf.lower HB.out.size)
  have HB2 := Aside0.mk (below_more HB.out hb2)
  clear hf hb2
  go_wp2
  go_ret
  exact ⟨_, rfl, mp, blk_new _ _, HF.out.below (Gr.alloc _ _).below, below_alloc HB2.out _⟩
end Go.Proofs.YtdheokololpnbaaGreatDoor.PWalk
end
section
namespace Go.AnyOrder
end Go.AnyOrder
end
section
namespace Go.Proofs.YtdheokololpnbaaGreatDoor.PWalk
open Go.RowKit Go.Proofs.YtdheokololpnbaaGreatDoorW.PrintWords Go.Proofs.YtdheokololpnbaaGreatDoorW.PrintLast Go.Proofs.YtdheokololpnbaaGreatDoorW.PrintMore
set_option linter.unusedVariables false
set_option linter.unusedSimpArgs false
open Go.Shelf
attribute [local go_sem] Oper.semAt_some
def dotCells (d : Dot) : List Value := [.int .i64 d.f0, .int .i64 d.f1]
def dcellsOf (l : List Dot) : List Value := l.flatMap dotCells
theorem dcellsOf_length (l : List Dot) : (dcellsOf l).length = l.length * 2 := by
 induction l with
 | nil => rfl
 | cons x l ih => rw [dcellsOf, List.flatMap_cons, List.length_append, ← dcellsOf, ih]; simp [dotCells]; omega
theorem dcellsOf_append (l m : List Dot) : dcellsOf (l ++ m) = dcellsOf l ++ dcellsOf m := by simp [dcellsOf]
theorem dcellsOf_drop_take (l : List Dot) (j : Nat) (x : Dot) (h : l[j]? = some x) : ((dcellsOf l).drop (j * 2)).take 2 = dotCells x := by
 induction l generalizing j with
 | nil => simp at h
 | cons y l ih =>
  cases j with
  | zero => simp at h; subst h; simp [dcellsOf, dotCells]
  | succ j =>
   simp at h
   rw [show (j + 1) * 2 = 2 + j * 2 from by omega, dcellsOf, List.flatMap_cons, ← dcellsOf, ← List.drop_drop, List.drop_left' (by simp [dotCells])]
   exact ih j h
theorem dreps_cells {R : Dot → List Value → Prop} (l : List Dot) (hR : ∀ x, R x (dotCells x)) : Reps R 2 l (dcellsOf l) :=
 ⟨dcellsOf_length l, fun j p hj => by rw [dcellsOf_drop_take l j p hj]; exact hR p⟩
theorem dcells_of_reps {R : Dot → List Value → Prop} (l : List Dot) (cs : List Value) (h : Reps R 2 l cs) (hR : ∀ x c, R x c → c = dotCells x) : cs = dcellsOf l := by
 induction l generalizing cs with
 | nil => have := h.1; simp at this; subst this; rfl
 | cons x l ih =>
  obtain ⟨h1, h2⟩ := h
  have h0 := hR _ _ (h2 0 x rfl)
  simp only [Nat.zero_mul, List.drop_zero] at h0
  have ht : Reps R 2 l (cs.drop 2) := ⟨by rw [List.length_drop, h1]; simp; omega, fun j p hj => by
   have := h2 (j + 1) p (by simpa using hj)
   rw [List.drop_drop, show 2 + j * 2 = (j + 1) * 2 from by omega]; exact this⟩
  rw [dcellsOf, List.flatMap_cons, ← dcellsOf, ← ih _ ht, ← h0, List.take_append_drop]
abbrev RD (W : World) (base : Nat) (u : Value) (xs : List Dot) : Prop := Kd.R k33 33 W base (fun _ => True) u xs
theorem RD_of_cells {w : World} {base : Nat} {v : Value} {l : List Dot} (h : w.ownsRow base 33 2 v l.length (dcellsOf l)) : RD w base v l :=
 ⟨fun _ _ => trivial, dcellsOf l, h, dreps_cells l fun x => k33_mkM _ _ _ x⟩
theorem dcells_of_R {w : World} {base : Nat} {ok : Nat → Prop} {v : Value} {l : List Dot} (h : Kd.R k33 33 w base ok v l) : w.ownsRow base 33 2 v l.length (dcellsOf l) := by
 obtain ⟨_, inner, ho, hr⟩ := h
 rw [← dcells_of_reps l inner hr fun x c hx => k33_openM hx]
 exact ho
theorem RD.keep {W V : World} {base : Nat} {u : Value} {xs : List Dot} (h : RD W base u xs) (hk : ∀ g, u.ownBlock = some g → V.heap[g]? = W.heap[g]?) : RD V base u xs := RD_of_cells (ownsRow_keep (dcells_of_R h) hk)
theorem RD.block {W : World} {base : Nat} {u : Value} {xs : List Dot} (h : RD W base u xs) {g : Nat} (hg : u.ownBlock = some g) : base ≤ g ∧ ∃ cur, W.heap[g]? = some (.cells cur 33 (0, 0)) := by
 rcases (dcells_of_R h).2 with ⟨rfl, _⟩ | ⟨g', c, cur, rfl, hb, hcur, _⟩
 ·
  cases hg
 ·
  cases hg; exact ⟨hb, cur, hcur⟩
theorem RD.slice {W : World} {base : Nat} {u : Value} {xs : List Dot} (h : RD W base u xs) : ∃ A c, u = .slice A xs.length c := ownsRow_slice (dcells_of_R h)
theorem RN.slice {W : World} {base : Nat} {u : Value} {xs : List Node} (h : RN W base u xs) : ∃ A c, u = .slice A xs.length c := ownsRow_slice (cells_of_R h)
theorem infoD : (Tryz.prog.info? 33).map (fun i => (i.zero, i.size, i.bytes)) = some (some (.agg #[(.int .i64 0), (.int .i64 0)]), 2, 16) := by kernel_rfl
theorem info_get {P : Program} {t : TypeId} {z : Option Value} {s b : Nat} (h : (P.info? t).map (fun i => (i.zero, i.size, i.bytes)) = some (z, s, b)) : ∃ i, P.info? t = some i ∧ i.zero = z ∧ i.size = s ∧ i.bytes = b := by
 rcases hi : P.info? t with _ | i
 ·
  rw [hi] at h; cases h
 ·
  rw [hi] at h
  simp only [Option.map_some, Option.some.injEq, Prod.mk.injEq] at h
  exact ⟨i, rfl, h⟩
theorem run_append_node (base : Nat) (ty : TypeId) (u : Value) (xs : List Node) (x : Node) (g c : Nat) (w : World) (hu : RN w base u xs) (hg : w.heap[g]? = some (boxN x)) (hb : base ≤ w.heap.size) (hl : xs.length + 1 ≤ 1000001) :
  ∃ u' w', (Builtin.append_ #[22, 22] ty #[u, .slice (some ⟨g, 0, none⟩) 1 c]).run Tryz.prog w = .ok u' w' ∧ RN w' base u' (xs ++ [x]) ∧ w.grownBy w' u.ownBlock ∧ (u'.ownBlock = u.ownBlock ∨ u'.ownBlock = some w.heap.size) := by
 obtain ⟨i, hi, hz1, hz2, hz3⟩ := info_get infoN
 obtain ⟨v', w', h1, h2, h3, _, h4⟩ := run_append_own_at (P := Tryz.prog) w base 22 ty 35 i _ 6 48 Tryz.underlying22 hi hz1 hz2 hz3 rfl (by decide) u xs.length (cellsOf xs) (cells_of_R hu) ⟨g, 0, none⟩ 1 c (nodeCells x) rfl
  (fun j v hv => by rw [add_lit, blk_cell hg, Nat.zero_add, List.getElem?_toArray]; exact hv) (fun v hv => one_cells [x] v (by simpa [cellsOf] using hv)) (by simp only [maxLen]; omega) (by omega) hb
 refine ⟨v', w', h1, R_of_cells ?_ (fun _ _ => trivial), h3, h4⟩
 rw [cellsOf_append, List.length_append, show cellsOf [x] = nodeCells x by simp [cellsOf]]
 exact h2
theorem run_append_dot (base : Nat) (ty : TypeId) (u : Value) (xs : List Dot) (x : Dot) (g c : Nat) (w : World) (hu : RD w base u xs) (hg : w.heap[g]? = some (dotC x)) (hb : base ≤ w.heap.size) (hl : xs.length + 1 ≤ 1000001) :
  ∃ u' w', (Builtin.append_ #[25, 25] ty #[u, .slice (some ⟨g, 0, none⟩) 1 c]).run Tryz.prog w = .ok u' w' ∧ RD w' base u' (xs ++ [x]) ∧ w.grownBy w' u.ownBlock ∧ (u'.ownBlock = u.ownBlock ∨ u'.ownBlock = some w.heap.size) := by
 obtain ⟨i, hi, hz1, hz2, hz3⟩ := info_get infoD
 obtain ⟨v', w', h1, h2, h3, _, h4⟩ := run_append_own_at (P := Tryz.prog) w base 25 ty 33 i _ 2 16 Tryz.underlying25 hi hz1 hz2 hz3 rfl (by decide) u xs.length (dcellsOf xs) (dcells_of_R hu) ⟨g, 0, none⟩ 1 c (dotCells x) rfl
  (fun j v hv => by rw [add_lit, blk_cell hg, Nat.zero_add, List.getElem?_toArray]; exact hv) (fun v hv => by simp [dotCells] at hv; rcases hv with rfl | rfl <;> rfl) (by simp only [maxLen]; omega) (by omega) hb
 refine ⟨v', w', h1, RD_of_cells ?_, h3, h4⟩
 rw [dcellsOf_append, List.length_append, show dcellsOf [x] = dotCells x by simp [dcellsOf]]
 exact h2
theorem far_setCell {W : World} {O : Nat} {i j : Nat} {v : Value} (h : j ≠ O) : (W.setCell ⟨O, i, none⟩ v).heap[j]? = W.heap[j]? := Below.heap_setCell W _ _ j h
abbrev outD (u : Value) : Obj := .cells #[u] 25 (0, 0)
def dts (L : List (Nat × Node)) : List Dot := L.map (fun p => p.2.f0)
theorem RD.below' {W V : World} {base : Nat} {u : Value} {xs : List Dot} (h : RD W base u xs) (hb : Below W.heap.size W V) : RD V base u xs := Kd.R_below h hb
/-- The dots that come, put into one row. -/
structure CollD (w : World) (b O : Nat) (xs : List Dot) (W : World) : Prop where
 out : ∃ u, W.heap[O]? = some (outD u) ∧ RD W b u xs
 below : Below w.heap.size w W
theorem CollD.mv {w : World} {b c O : Nat} {xs : List Dot} {W V : World} (h : CollD w b O xs W) (hm : ListRange.Mv ownT c W V) (hc : w.heap.size ≤ c) : CollD w b O xs V := by
 obtain ⟨⟨u, h1, h2⟩, h3⟩ := h
 exact ⟨⟨u, hm.far h1 (by decide), h2.keep fun g hg => by
  obtain ⟨_, cur, hcur⟩ := h2.block hg
  exact (hm.far hcur (by decide)).trans hcur.symm⟩, hm.on h3 hc⟩
theorem CollD.walk {w : World} {b O : Nat} {xs : List Dot} {W V : World} (h : CollD w b O xs W) {row : Option Nat} (hg : W.grownBy V row) (hr : ∀ r, row = some r → w.heap.size ≤ r ∧ ∃ o : Obj, W.heap[r]? = some o ∧ o.isCells = false) : CollD w b O xs V := by
 obtain ⟨⟨u, h1, h2⟩, h3⟩ := h
 have hnc : ∀ q cells t, W.heap[q]? = some (Obj.cells cells t (0, 0)) → V.heap[q]? = some (Obj.cells cells t (0, 0)) := fun q cells t hq => (hg.block q (blk_lt hq) (fun e => by obtain ⟨_, o, ho, hc⟩ := hr q e.symm; rw [hq] at ho; cases ho; cases hc)).trans hq
 exact ⟨⟨u, hnc O _ _ h1, h2.keep fun g hgg => by obtain ⟨_, cur, hcur⟩ := h2.block hgg; exact (hnc _ _ _ hcur).trans hcur.symm⟩, h3.grown hg h3.size (fun k e => (hr k e).1)⟩
theorem CollD.more {w : World} {b O : Nat} {xs : List Dot} {W V : World} (h : CollD w b O xs W) (hb : Below W.heap.size W V) : CollD w b O xs V := by
 obtain ⟨⟨u, h1, h2⟩, h3⟩ := h
 exact ⟨⟨u, blk_keep h1 hb, RD.below' h2 hb⟩, below_more h3 hb⟩
/-- The end of a round: the box is stored. -/
theorem CollD.put {w : World} {n₀ O : Nat} {xs ys : List Dot} {W1 V V2 : World} {u u2 : Value} (hn : w.heap.size ≤ n₀) (hOl : w.heap.size ≤ O) (h1 : W1.heap[O]? = some (outD u)) (h2 : RD W1 n₀ u xs) (h3 : Below w.heap.size w W1)
  (hV : Gr W1 V) (hg : V.grownBy V2 u.ownBlock) (hr : RD V2 n₀ u2 ys) (hat : u2.ownBlock = u.ownBlock ∨ u2.ownBlock = some V.heap.size) (hnW : n₀ ≤ W1.heap.size) :
  KeepsFrom n₀ W1 (V2.setCell ⟨O, 0, none⟩ u2) ∧ KpT n₀ (fun i => i = O) W1 (V2.setCell ⟨O, 0, none⟩ u2) ∧ CollD w n₀ O ys (V2.setCell ⟨O, 0, none⟩ u2) := by
 have hOne : some O ≠ u.ownBlock := fun e => by
  obtain ⟨_, cur, hc⟩ := h2.block e.symm
  rw [h1] at hc
  exact absurd (Obj.cells.inj (Option.some.inj hc)).2.1 (by decide)
 have hO2 : V2.heap[O]? = some (outD u) := (hg.block O (Nat.lt_of_lt_of_le (blk_lt h1) hV.below.size) hOne).trans (hV.blk h1)
 have hsz : W1.heap.size ≤ V2.heap.size := Nat.le_trans hV.below.size hg.size
 have hkeep : ∀ q, q < W1.heap.size → q ≠ O → u.ownBlock ≠ some q → (V2.setCell ⟨O, 0, none⟩ u2).heap[q]? = W1.heap[q]? := fun q hq h4 h5 => by
  rw [far_setCell h4, hg.block q (Nat.lt_of_lt_of_le hq hV.below.size) (fun e => h5 e.symm)]
  exact hV.below.block q hq
 have hnr : ∀ q o, W1.heap[q]? = some o → (∀ c, o ≠ .cells c 33 (0, 0)) → u.ownBlock ≠ some q := fun q o hq ho e => by
  obtain ⟨_, cur, hc⟩ := h2.block e
  rw [hq] at hc
  exact ho _ (Option.some.inj hc)
 have hno : ∀ q o, W1.heap[q]? = some o → (∀ c, o ≠ .cells c 25 (0, 0)) → q ≠ O := fun q o hq ho e => by
  subst e
  rw [h1] at hq
  exact ho _ (Option.some.inj hq).symm
 refine ⟨⟨by rw [World.size_setCell]; exact hsz, fun q o hB hq hoc => (hkeep q (blk_lt hq) (hno q o hq fun c e => by subst e; cases hoc) (hnr q o hq fun c e => by subst e; cases hoc)).trans hq⟩,
  ⟨⟨by rw [World.size_setCell]; exact hsz, fun q hq hE => hkeep q (Nat.lt_of_lt_of_le hq hnW) hE (fun e => by have := (h2.block e).1; omega)⟩, fun q c t hq ht => (hkeep q (blk_lt hq) (hno q _ hq fun c' e => by cases e; revert ht; decide) (hnr q _ hq fun c' e => by cases e; revert ht; decide)).trans hq⟩,
  ⟨u2, blk_set hO2 0 _, hr.keep fun g hgg => far_setCell fun e => ?_⟩, ?_⟩
 ·
  subst e
  obtain ⟨_, cur, hc⟩ := hr.block hgg
  rw [hO2] at hc
  exact absurd (Obj.cells.inj (Option.some.inj hc)).2.1 (by decide)
 ·
  exact below_setCell ((below_more h3 hV.below).grown hg (below_more h3 hV.below).size (fun k e => Nat.le_trans hn (h2.block e).1)) hOl 0 u2
set_option maxHeartbeats 2000000 in
set_option maxRecDepth 100000 in
theorem reached_call (A0 : Option Addr) (n c0 : Nat) (ll : List Node) (w : World) (hn : ll.length = n) (hr0 : Kd.C k35 w A0 n ll) (hc0 : n ≤ c0) (hl : ll.length ≤ 1000000) (hs : Store ll) (hok : storeOk ll = true) :
  Calls Tryz.prog 23 #[.slice A0 n c0] w fun e w' => ∃ v0_ : Value, e = .returned v0_ ∧ RD w' w.heap.size v0_ (dts (ordOf ll)) ∧ Below w.heap.size w w' := by
 have HL := Aside0.mk hl
 have HS := Aside0.mk hs
 have hO := blk_new w (outD (.slice none 0 0))
 have HAF := Aside0.mk (all_fn A0 n c0 ll (w.alloc (outD (.slice none 0 0))) hn (Kd.C_below hr0 (below_alloc (Below.refl _ _) _)) hc0 hl)
 have HO := Aside0.mk hO
 have HOK := Aside0.mk hok
 clear hO hr0 hc0 hl hn hs hok
 refine calls_of_wp_m Tryz.func23 rfl ?_
 simp only [Tryz.ntmps23, List.size_toArray, List.length_cons, List.length_nil, Nat.reduceAdd, Nat.reduceSub, Array.replicate_succ, Array.replicate_zero, List.push_toArray, List.append_toArray, List.nil_append, List.cons_append]
 go_wp2_with fail
 refine HAF.out.mono ?_
 rintro e w2 ⟨Fb, mp, rfl, hF, hfam, hb⟩
 rw [if_pos HOK.out] at hfam
 have HO2 := Aside0.mk (blk_keep HO.out hb)
 have HF2 := Aside0.mk hF
 have HFM := Aside0.mk hfam
 have HB2 := Aside0.mk (below_more (below_alloc (Below.refl _ _) _) hb)
 have HOW : Aside0 (w.heap.size ≤ w.heap.size ∧ w.heap.size < w2.heap.size) := ⟨Nat.le_refl _, blk_lt HO2.out⟩
 clear hF hfam hb HO HAF
 obtain ⟨O, HOe⟩ : ∃ O, Aside0 (w.heap.size = O) := ⟨_, ⟨rfl⟩⟩
 rw [HOe.out] at HO2
 have HOW : Aside0 (w.heap.size ≤ O ∧ O < w2.heap.size) := ⟨by rw [← HOe.out]; exact HOW.out⟩
 rw [show (Value.pointer (some { block := w.heap.size, off := 0 })) = .pointer (some ⟨O, 0, none⟩) by rw [HOe.out]]
 go_wp2_with fail
 refine wpIn_wide.1 (ListRange.wpIn_move (n := 10) (F := Fence.wide) rfl (by decide) (gf := 62) (lb := #[.pointer (some ⟨Fb, 0, none⟩)]) rfl trivial Tryz.call62
  (encs := fun x : Nat × Node => #[.int .i64 (x.1 : Int), vNode x.2]) (Kp := KpT w2.heap.size (fun i => i = O)) (L := ordOf ll) (w0 := w2) ownT
  (all_moves _ mp Fb (fun i => i = O) ll w2 HS.out HL.out HF2.out HFM.out (fun i c t e hc => by subst e; rw [HO2.out] at hc; cases hc; exact .inr (.inl rfl)))
  (fun h k => h.trans k) (fun W l o o' hl ho hc _ => KpT.put (Nat.le_refl _) W l o o' hl ho hc) (Below.refl _ _) (fun _ => rfl)
  (fun k W => CollD w w2.heap.size O (dts ((ordOf ll).take k)) W ∧ w2.heap.size ≤ W.heap.size)
  (fun _ _ _ => False)
  (fun k W W' row hs hg hr => ⟨hs.1.walk hg (fun r e => ⟨Nat.le_trans HB2.out.size (hr r e).1, (hr r e).2⟩), Nat.le_trans hs.2 hg.size⟩) (fun _ _ _ _ _ hs _ _ => hs)
  (fun k A B hm hs => ⟨hs.1.mv hm HB2.out.size, Nat.le_trans hs.2 hm.size⟩) (fun _ _ _ _ _ hs => hs)
  ⟨⟨⟨_, HO2.out, Kd.R_nil _ _ _ _ _⟩, HB2.out⟩, Nat.le_refl _⟩
  (fun x a' W => ∃ Nb, w2.heap.size ≤ Nb ∧ W.heap[Nb]? = some (boxN x.2) ∧ a' = { tmps := #[.slice A0 n c0, undef, .slice none 0 0, .pointer (some ⟨O, 0, none⟩), undef, .pointer (some ⟨Nb, 0, none⟩), .slice A0 n c0, .func (.func 62) #[] #[.pointer (some ⟨Fb, 0, none⟩)], .int .i64 (x.1 : Int), vNode x.2, undef, undef, undef, undef, undef, undef], defers := [] })
  (fun x a' _ W W' row hs hg hr => by
   obtain ⟨Nb, h1, h2, h3⟩ := hs
   exact ⟨Nb, h1, (hg.block Nb (blk_lt h2) (fun e => by obtain ⟨_, o, ho, hc⟩ := hr Nb e.symm; rw [h2] at ho; cases ho; cases hc)).trans h2, h3⟩)
  ?assign ?body ?done ?stop)
 case assign =>
  rintro lp k x W K hx ⟨h1, h2⟩ hK
  gi_wp2
  exact hK _ _ ((KeepsOthers.alloc _ _).from _) (KpT.below (Gr.alloc W _).below h2) ⟨h1.more (Gr.alloc W _).below, Nat.le_trans h2 (by rw [World.size_alloc]; omega)⟩ ⟨W.heap.size, h2, blk_new _ _, rfl⟩
 case body =>
  rintro lp k x a' W hx hl2 ⟨rr, hrr⟩ ⟨⟨⟨u, h1, h2⟩, h3⟩, h4⟩ ⟨Nb, hx1, hx2, rfl⟩
  have hlen : (dts ((ordOf ll).take k)).length ≤ 1000000 := by unfold dts; rw [List.length_map, List.length_take]; exact Nat.le_trans (Nat.min_le_right _ _) (Nat.le_trans (ord_le HS.out) HL.out)
  obtain ⟨u2, w3, hrun, hrd, hgr, hat⟩ := run_append_dot w2.heap.size 25 u _ x.2.f0 W.heap.size 1 (W.alloc (dotC x.2.f0)) (RD.below' h2 (Gr.alloc W _).below) (blk_new _ _) (Nat.le_trans h4 (by rw [World.size_alloc]; omega)) (by omega)
  have hput := CollD.put HB2.out.size (Nat.le_trans HOW.out.1 (Nat.le_refl _)) h1 h2 h3 (Gr.alloc W _) hgr hrd hat h4
  have hO3 : w3.heap[O]? = some (outD u) := (hgr.block O (Nat.lt_of_lt_of_le (blk_lt h1) (Gr.alloc W (dotC x.2.f0)).below.size) (fun e => by
   obtain ⟨_, cur, hc⟩ := h2.block e.symm
   rw [h1] at hc
   exact absurd (Obj.cells.inj (Option.some.inj hc)).2.1 (by decide))).trans (blk_alloc h1 _)
  have HTK : Aside0 (dts ((ordOf ll).take (k + 1)) = dts ((ordOf ll).take k) ++ [x.2.f0]) := ⟨by
   have hk := (List.getElem?_eq_some_iff.1 hx).1
   unfold dts
   rw [List.take_succ_eq_append_getElem hk, (List.getElem?_eq_some_iff.1 hx).2, List.map_append]; rfl⟩
  obtain ⟨A, c, rfl⟩ := h2.slice
  obtain ⟨A2, c2, rfl⟩ := hrd.slice
  obtain ⟨m, hm⟩ : ∃ m, (dts ((ordOf ll).take k)).length = m := ⟨_, rfl⟩
  obtain ⟨m2, hm2⟩ : ∃ m2, (dts ((ordOf ll).take k) ++ [x.2.f0]).length = m2 := ⟨_, rfl⟩
  rw [hm] at h1 h2 hrun hgr hat hO3
  rw [hm2] at hrun hrd hat hput
  clear hm hm2
  have cO : W.cell? ⟨O, 0, none⟩ = _ := (blk_cell h1 0).trans rfl
  have n0 : W.cell? ⟨Nb, 0, none⟩ = _ := (blk_cell hx2 0).trans rfl
  have n1 : W.cell? ⟨Nb, 1, none⟩ = _ := (blk_cell hx2 1).trans rfl
  have n2 : W.cell? ⟨Nb, 2, none⟩ = _ := (blk_cell hx2 2).trans rfl
  have n3 : W.cell? ⟨Nb, 3, none⟩ = _ := (blk_cell hx2 3).trans rfl
  have n4 : W.cell? ⟨Nb, 4, none⟩ = _ := (blk_cell hx2 4).trans rfl
  have n5 : W.cell? ⟨Nb, 5, none⟩ = _ := (blk_cell hx2 5).trans rfl
  have cO3 : w3.cell? ⟨O, 0, none⟩ = _ := (blk_cell hO3 0).trans rfl
  have fO3 := blk_frozen hO3 0
  have HRUN := Aside0.mk hrun
  have HPUT := Aside0.mk hput
  have HSZ3 : Aside0 (w2.heap.size ≤ w3.heap.size) := ⟨Nat.le_trans (Nat.le_trans h4 (Gr.alloc W (dotC x.2.f0)).below.size) hgr.size⟩
  clear h1 h2 h3 h4 hx hx1 hx2 hrun hrd hgr hat hput hO3 hlen
  obtain ⟨x0, x1⟩ := x
  dsimp only at n0 n1 n2 n3 n4 n5 ⊢
  gi_wp2_with (gi_at_builtin; refine wpListIn_append_eq rfl (.tmp 10) (.tmp 13) 25 rfl rfl rfl HRUN.out ?_)
  exact ⟨HPUT.out.1, HPUT.out.2.1, by rw [HTK.out]; exact HPUT.out.2.2, by rw [World.size_setCell]; exact HSZ3.out⟩
 case done =>
  rintro D W hD ⟨h1, h2⟩ hDK
  rw [List.take_length] at h1
  obtain ⟨⟨u, hO, hr⟩, hbl⟩ := h1
  obtain ⟨A, c, rfl⟩ := hr.slice
  obtain ⟨m, hm⟩ : ∃ m, (dts (ordOf ll)).length = m := ⟨_, rfl⟩
  rw [hm] at hO hr
  clear hm
  have cO : W.cell? ⟨O, 0, none⟩ = _ := (blk_cell hO 0).trans rfl
  have HEND : Aside0 (RD W w.heap.size (.slice A m c) (dts (ordOf ll)) ∧ Below w.heap.size w W ∧ W.heap[D]? = some (.deferred (some [])) ∧ w.heap.size ≤ D) := ⟨Kd.R_lower hr HB2.out.size, hbl, hDK, Nat.le_trans HB2.out.size hD⟩
  clear hO hr hbl hDK hD h2
  go_wp2
  refine leaves_of_marks2 (n0 := w.heap.size) [mkMark D] _ ⟨[D], rfl, by simp, fun E hE => ?_⟩ (fun W' hm => ⟨_, results_tmp rfl _ _ W', _, rfl, R_onlyMarks HEND.out.1 hm, below_onlyMarks HEND.out.2.1 hm⟩)
  simp only [List.mem_singleton] at hE
  subst hE
  exact ⟨HEND.out.2.2.2, HEND.out.2.2.1⟩
 case stop =>
  rintro D c k W _ _ h _
  exact h.elim
theorem dcellsOf_get (l : List Dot) (j : Nat) (u : Value) (h : (dcellsOf l)[j]? = some u) : ∃ x, l[j / 2]? = some x ∧ (dotCells x)[j % 2]? = some u := by
 have hj : j < l.length * 2 := by rw [← dcellsOf_length]; exact (List.getElem?_eq_some_iff.1 h).1
 have hd : j / 2 < l.length := by omega
 refine ⟨l[j / 2], List.getElem?_eq_getElem hd, ?_⟩
 rw [← dcellsOf_drop_take l (j / 2) _ (List.getElem?_eq_getElem hd), List.getElem?_take, if_pos (by omega), List.getElem?_drop, show j / 2 * 2 + j % 2 = j from by omega]
 exact h
theorem DC_cells {w : World} {A : Option Addr} {n : Nat} {xs : List Dot} (h : Kd.C k33 w A n xs) (hp : 0 < n) : ∃ ad, A = some ad ∧ ∀ j u, (dcellsOf xs)[j]? = some u → w.cell? (ad.add j) = some u := by
 obtain ⟨hl, _, hc⟩ := h
 obtain ⟨ad, e, hc⟩ := hc hp
 refine ⟨ad, e, fun j u hu => ?_⟩
 obtain ⟨x, hx, hu⟩ := dcellsOf_get xs j u hu
 obtain ⟨c, _, hK, hcell⟩ := hc _ _ hx
 have hcx : c = dotCells x := k33_open hK
 subst hcx
 have h2 := hcell _ _ hu
 have e2 : j / 2 * (k33).sz + j % 2 = j := (show j / 2 * 2 + j % 2 = j by omega)
 rw [e2] at h2
 exact h2
theorem done_cells (l : List Dot) : ∀ u ∈ dcellsOf l, u.oneCell' = true := by
 intro u hu
 unfold dcellsOf at hu
 rw [List.mem_flatMap] at hu
 obtain ⟨x, _, hx⟩ := hu
 simp [dotCells] at hx
 rcases hx with rfl | rfl <;> rfl
set_option maxHeartbeats 400000 in
set_option maxRecDepth 100000 in
theorem CloneDot.calls (A0 : Option Addr) (c0 : Nat) (l0 : List Dot) (w : World) (hr0 : Kd.C k33 w A0 l0.length l0) (hl : l0.length ≤ 1000000) :
  Calls Tryz.prog 41 #[.slice A0 l0.length c0] w fun e w' => ∃ v0_ : Value, e = .returned v0_ ∧ Kd.R k33 33 w' w.heap.size (fun _ => True) v0_ l0 ∧ Below w.heap.size w w' := by
 cases A0 with
 | none =>
  have hz : l0 = [] := by
   cases l0 with
   | nil => rfl
   | cons x l => obtain ⟨ad, e, _⟩ := DC_cells hr0 (by simp); cases e
  subst hz
  have hq := fun (W : World) => Lib.run_eql_slice_nil_nil (P := Tryz.prog) W 0 c0 Tryz.underlying25
  clear hr0
  go_enter Tryz.func41, Tryz.ntmps41
  go_wp2
  go_ret
  exact ⟨_, rfl, Kd.R_nil _ _ _ _ _, Below.refl _ _⟩
 | some ad =>
  have hq := fun (W : World) => Lib.run_eql_slice_some_nil (P := Tryz.prog) W ad l0.length c0 Tryz.underlying25
  have HR := Aside0.mk hr0
  obtain ⟨i0, hi, hz0, hz1, hz2⟩ := info_parts infoD
  have hz := Tryz.zeroValue33
  have hlen := dcellsOf_length l0
  have hcells : Aside0 (∀ j u, (dcellsOf l0)[j]? = some u → w.cell? (ad.add j) = some u) := ⟨by
   intro j u hu
   by_cases hp : 0 < l0.length
   ·
    obtain ⟨ad', e, h⟩ := DC_cells hr0 hp
    cases e; exact h j u hu
   ·
    have : l0 = [] := by cases l0 <;> simp_all
    subst this; simp [dcellsOf] at hu⟩
  clear hr0
  go_enter Tryz.func41, Tryz.ntmps41
  go_wp2_with (at_builtin; go_loud (refine wpList_append_own _ rfl (.tmp 5) (.tmp 6) 25 rfl w.heap.size 33 i0 _ 2 16 Tryz.underlying25 hi hz0 hz1 hz2 rfl (by decide) _ 0 [] rfl (World.ownsRow_lit w #[] 0 (Nat.le_refl _) (by decide) rfl) ad l0.length c0 (dcellsOf l0) rfl hlen ?c1 (done_cells l0) ?c2 ?c3 ?c4 ?_); (case c1 => exact fun j u hu => pw_cell_below (below_alloc (Below.refl _ _) _) (hcells.out j u hu)); (case c2 => unfold maxLen; omega); (case c3 => omega); (case c4 => simp); intro v' w' ho hg hn)
  go_ret
  exact ⟨_, rfl, RD_of_cells (by simpa using ho), (below_alloc (Below.refl _ _) _).grown hg (by simp) (fun k e => by cases (show some w.heap.size = some k from e); exact Nat.le_refl _)⟩
end Go.Proofs.YtdheokololpnbaaGreatDoor.PWalk
end
section
namespace Go.Proofs.YtdheokololpnbaaGreatDoor.PWalk
open Go.RowKit Go.Proofs.YtdheokololpnbaaGreatDoorW.PrintWords Go.Proofs.YtdheokololpnbaaGreatDoorW.PrintLast Go.Proofs.YtdheokololpnbaaGreatDoorW.PrintMore
set_option linter.unusedVariables false
set_option linter.unusedSimpArgs false
open Go.Shelf
attribute [local go_sem] Oper.semAt_some
theorem R_of_row {w : World} {base g n cap : Nat} {l : List Node} {cur : Array Value} (hn : n = l.length) (hb : base ≤ g) (hc : w.heap[g]? = some (.cells cur 35 (0, 0))) (hle : n ≤ cap) (hmx : cap ≤ 9223372036854775807) (hsz : cur.size = cap * 6) (ht : cur.toList.take (n * 6) = cellsOf l) :
  Kd.R k35 35 w base (fun _ => True) (.slice (some ⟨g, 0, none⟩) n cap) l := by
 subst hn
 exact R_of_cells ⟨cellsOf_length _, .inr ⟨g, cap, cur, rfl, hb, hc, hle, hmx, hsz, ht⟩⟩ (fun _ _ => trivial)
theorem box_cells {V : World} {g : Nat} {c0 c1 c2 c3 c4 c5 : Value} (h : V.heap[g]? = some (.cells #[c0, c1, c2, c3, c4, c5] 35 (0, 0))) :
  V.cell? ⟨g, 0, none⟩ = some c0 ∧ V.cell? ⟨g, 1, none⟩ = some c1 ∧ V.cell? ⟨g, 2, none⟩ = some c2 ∧ V.cell? ⟨g, 3, none⟩ = some c3 ∧ V.cell? ⟨g, 4, none⟩ = some c4 ∧ V.cell? ⟨g, 5, none⟩ = some c5 :=
 ⟨(blk_cell h 0).trans rfl, (blk_cell h 1).trans rfl, (blk_cell h 2).trans rfl, (blk_cell h 3).trans rfl, (blk_cell h 4).trans rfl, (blk_cell h 5).trans rfl⟩
section
variable {ops : Array Oper} {rest : List Oper} {o : Oper} {a : Act} {Q : Exit → Act → World → Prop}
end
theorem own_more {w V : World} {base : Nat} {v : Value} {l : List Node} (h : Kd.R k35 35 w base (fun _ => True) v l) (hb : Below w.heap.size w V) : Kd.R k35 35 V base (fun _ => True) v l := Kd.R_below h hb
theorem dead_call (x : Node) (W : World) : Calls Tryz.prog 52 #[vNode x] W fun e W' => e = .returned (.bool (decide (x.f3 = 0))) ∧ Below W.heap.size W W' :=
 node_Dead.calls x.f0.f0 x.f0.f1 x.f1.f0 x.f1.f1 x.f2 x.f3 (decide (x.f3 = 0)) W (by unfold node_Dead.f; by_cases h : x.f3 = 0 <;> simp [h])
theorem grown_on {w W V : World} {row : Option Nat} (h : W.grownBy V row) (hb : Below w.heap.size w W) (hr : ∀ k, row = some k → w.heap.size ≤ k) : Below w.heap.size w V := hb.grown h hb.size hr
theorem R_base {W : World} {base : Nat} {v : Value} {l : List Node} (h : Kd.R k35 35 W base (fun _ => True) v l) : ∀ k, v.ownBlock = some k → base ≤ k := fun k e => by
 obtain ⟨_, ho⟩ := cells_of_R h
 rcases ho with ⟨rfl, _⟩ | ⟨g, cap, cur, rfl, hb, _⟩
 ·
  cases e
 ·
  cases e; exact hb
end Go.Proofs.YtdheokololpnbaaGreatDoor.PWalk
end
section
namespace Go.Proofs.YtdheokololpnbaaGreatDoor.PWalk
open Go.RowKit Go.Proofs.YtdheokololpnbaaGreatDoorW.PrintWords Go.Proofs.YtdheokololpnbaaGreatDoorW.PrintLast Go.Proofs.YtdheokololpnbaaGreatDoorW.PrintMore
set_option linter.unusedVariables false
set_option linter.unusedSimpArgs false
open Go.Shelf
attribute [local go_sem] Oper.semAt_some
theorem RN.C {W : World} {base m c : Nat} {A : Option Addr} {xs : List Node} (h : RN W base (.slice A m c) xs) : xs.length = m ∧ m ≤ c ∧ Kd.C k35 W A m xs := by
 obtain ⟨A', c', e, hc, hC⟩ := Kd.R_reads h
 cases e
 exact ⟨rfl, hc, hC⟩
theorem run_append_nilsrc (base : Nat) (ty : TypeId) (u : Value) (xs : List Node) (c : Nat) (w : World) (hu : RN w base u xs) :
  (Builtin.append_ #[22, 22] ty #[u, .slice none 0 c]).run Tryz.prog w = .ok u w := by
 obtain ⟨i, hi, hz1, hz2, hz3⟩ := info_get infoN
 rcases (cells_of_R hu).2 with ⟨rfl, h0⟩ | ⟨g, cap, cur, rfl, _, _, hnc, _⟩
 ·
  simp [Builtin.append_, run_underlying Tryz.underlying22, sizeOf, typeInfo, hi, Builtin.lenOf, Builtin.firstCells]
 ·
  simp [Builtin.append_, run_underlying Tryz.underlying22, sizeOf, typeInfo, hi, Builtin.lenOf, Builtin.firstCells, hnc, storeCells]
/-- 'append(u, s...)', s any nodes. -/
theorem run_append_nodes (base : Nat) (ty : TypeId) (u : Value) (xs ys : List Node) (A : Option Addr) (c : Nat) (w : World) (hu : RN w base u xs) (hs : Kd.C k35 w A ys.length ys) (hb : base ≤ w.heap.size) (hl : xs.length + ys.length ≤ 1000001) :
  ∃ u' w', (Builtin.append_ #[22, 22] ty #[u, .slice A ys.length c]).run Tryz.prog w = .ok u' w' ∧ RN w' base u' (xs ++ ys) ∧ w.grownBy w' u.ownBlock ∧ (u'.ownBlock = u.ownBlock ∨ u'.ownBlock = some w.heap.size) := by
 cases A with
 | none =>
  have hz : ys = [] := by
   cases ys with
   | nil => rfl
   | cons x l => obtain ⟨ad, e, _⟩ := C_cells hs (by simp); cases e
  subst hz
  exact ⟨u, w, run_append_nilsrc base ty u xs c w hu, by rwa [List.append_nil], ⟨rfl, rfl, rfl, Nat.le_refl _, fun _ _ _ => rfl⟩, .inl rfl⟩
 | some ad =>
  obtain ⟨i, hi, hz1, hz2, hz3⟩ := info_get infoN
  have hcells : ∀ j v, (cellsOf ys)[j]? = some v → w.cell? (ad.add j) = some v := by
   intro j v hv
   by_cases hp : 0 < ys.length
   ·
    obtain ⟨ad', e, h⟩ := C_cells hs hp
    cases e; exact h j v hv
   ·
    have : ys = [] := by cases ys <;> simp_all
    subst this; simp [cellsOf] at hv
  obtain ⟨v', w', h1, h2, h3, _, h4⟩ := run_append_own_at (P := Tryz.prog) w base 22 ty 35 i _ 6 48 Tryz.underlying22 hi hz1 hz2 hz3 rfl (by decide) u xs.length (cellsOf xs) (cells_of_R hu) ad ys.length c (cellsOf ys) (cellsOf_length ys)
   hcells (one_cells ys) (by simp only [maxLen]; omega) (by omega) hb
  refine ⟨v', w', h1, R_of_cells ?_ (fun _ _ => trivial), h3, h4⟩
  rw [cellsOf_append, List.length_append]
  exact h2
set_option maxRecDepth 100000 in
theorem GrowNil.calls (n : Nat) (w : World) (hn : n ≤ 1000001) :
  Calls Tryz.prog 55 #[.slice none 0 0, .int .i64 n] w fun e w' => ∃ v : Value, e = .returned v ∧ RN w' w.heap.size v [] ∧ Below w.heap.size w w' := by
 obtain ⟨i0, hi0, hz0, hz1, hz2⟩ := info_parts infoN
 by_cases h0 : n = 0
 ·
  subst h0
  go_enter Tryz.func55, Tryz.ntmps55
  go_wp2
  go_ret
  exact ⟨_, rfl, Kd.R_nil _ _ _ _ _, Below.refl _ _⟩
 ·
  obtain ⟨G, hG⟩ : ∃ G, G = grownCap w n 0 35 := ⟨_, rfl⟩
  have hG63 : G ≤ 9223372036854775807 := by
   have := grownCap_le_maxLen w n 0 35 (by unfold maxLen; omega)
   rw [← hG] at this
   unfold maxLen at this
   omega
  have hGn : n ≤ G := by rw [hG]; exact grownCap_ge w _ _ _
  obtain ⟨cs, Hcs⟩ : ∃ cs : Array Value, Aside0 (cs = Builtin.zeroCells (Value.agg #[(.int .i64 0), (.int .i64 0), (.int .i64 0), (.int .i64 0), (.int .i64 0), (.int .i32 0)]).cells n ++ Builtin.zeroCells (Value.agg #[(.int .i64 0), (.int .i64 0), (.int .i64 0), (.int .i64 0), (.int .i64 0), (.int .i32 0)]).cells (G - n)) := ⟨_, ⟨rfl⟩⟩
  have HS : Aside0 (cs.size = G * 6) := ⟨by
   rw [Hcs.out, Array.size_append, size_zeroCells, size_zeroCells, show (Value.agg #[(.int .i64 0), (.int .i64 0), (.int .i64 0), (.int .i64 0), (.int .i64 0), (.int .i32 0)]).cells.size = 6 from rfl, ← Nat.add_mul]
   congr 1; omega⟩
  have h1 : ¬ ((n : Int) < 0) := by omega
  have h3 : wrap64 ((n : Int) - 0) = (n : Int) := by unfold wrap64; omega
  have h4 : (n : Int) > 0 := by omega
  have hrz : ∀ ty, (Builtin.append_ #[22, 3] ty #[.slice none 0 0, .int .i64 n]).run Tryz.prog w = .ok (.slice (some ⟨w.heap.size, 0, none⟩) n G) (w.drew.alloc (.cells cs 35)) := fun ty => by
   have := Lib.run_append_nil_zeros (P := Tryz.prog) w 22 3 ty 35 i0 _ .i64 .i64 Tryz.underlying22 Tryz.underlying3 hi0 hz0 n (by omega) (by omega) (by omega) (by rw [hz2]; omega)
   rw [← hG, ← Hcs.out] at this
   exact this
  clear hG
  go_enter Tryz.func55, Tryz.ntmps55
  go_wp2_with (at_builtin; refine wpList_append_eq2 rfl (.tmp 20) (.tmp 21) 22 3 rfl rfl rfl (hrz _) ?_)
  go_ret
  exact ⟨_, rfl, R_of_row rfl (by simp) (blk_new _ _) (Nat.zero_le _) hG63 HS.out rfl, below_alloc (Below.refl _ _).drew _⟩
set_option maxHeartbeats 1000000 in
set_option maxRecDepth 100000 in
theorem Concat2.calls (A0 : Option Addr) (c0 : Nat) (l0 : List Node) (A1 : Option Addr) (c1 : Nat) (l1 : List Node) (g : Nat) (w : World) (hg : w.heap[g]? = some (.cells #[.slice A0 l0.length c0, .slice A1 l1.length c1] 22 (0, 0)))
  (hr0 : Kd.C k35 w A0 l0.length l0) (hr1 : Kd.C k35 w A1 l1.length l1) (hl : l0.length + l1.length ≤ 1000001) :
  Calls Tryz.prog 33 #[.slice (some ⟨g, 0, none⟩) 2 2] w fun e w' => ∃ v : Value, e = .returned v ∧ RN w' w.heap.size v (l0 ++ l1) ∧ Below w.heap.size w w' := by
 have HG := Aside0.mk hg
 have HR0 := Aside0.mk hr0
 have HR1 := Aside0.mk hr1
 obtain ⟨n0, H0⟩ : ∃ n, Aside0 (l0.length = n) := ⟨_, ⟨rfl⟩⟩
 obtain ⟨n1, H1⟩ : ∃ n, Aside0 (l1.length = n) := ⟨_, ⟨rfl⟩⟩
 rw [H0.out, H1.out] at HG hl
 rw [H0.out] at HR0
 rw [H1.out] at HR1
 have g0 : w.cell? ⟨g, 0, none⟩ = _ := (blk_cell HG.out 0).trans rfl
 have g1 : w.cell? ⟨g, 1, none⟩ = _ := (blk_cell HG.out 1).trans rfl
 clear hg hr0 hr1
 go_enter Tryz.func33, Tryz.ntmps33
 go_wp2
 go_loopw [3, 11] (fun s i wr => wr = w ∧ ((s = .int .i64 0 ∧ i = .int .i64 0) ∨ (s = .int .i64 n0 ∧ i = .int .i64 1) ∨ (s = .int .i64 ((n0 + n1 : Nat) : Int) ∧ i = .int .i64 2))) (fun _ i _ => 2 - (intOf i).toNat)
 case atStart => exact ⟨rfl, .inl ⟨rfl, rfl⟩⟩
 case round =>
  obtain ⟨rfl, ⟨rfl, rfl⟩ | ⟨rfl, rfl⟩ | ⟨rfl, rfl⟩⟩ := hrel
  ·
   have h1 : wrap64 (0 + (n0 : Int)) = (n0 : Int) := by unfold wrap64; omega
   have h2 : ¬ ((n0 : Int) < 0) := by omega
   go_wp2
   go_roundw
   case rel => exact ⟨by first | trivial | rfl, .inr (.inl ⟨by go_num, by go_num⟩)⟩
   case measure => simp [intOf]
  ·
   have h1 : wrap64 ((n0 : Int) + (n1 : Int)) = (n0 : Int) + (n1 : Int) := by unfold wrap64; omega
   have h2 : ¬ ((n0 : Int) + (n1 : Int) < 0) := by omega
   go_wp2
   go_roundw
   case rel => exact ⟨by first | trivial | rfl, .inr (.inr ⟨by go_num, by go_num⟩)⟩
   case measure => simp [intOf]
  ·
   have HGN := Aside0.mk (GrowNil.calls (n0 + n1) wr (by omega))
   clear g0 g1
   go_wp2_with fail
   refine HGN.out.mono ?_
   rintro e V ⟨v, rfl, hR, hb⟩
   have HV := Aside0.mk hR
   have HB := Aside0.mk hb
   clear hR hb HGN
   have HOG := Aside0.mk HG.out
   obtain ⟨wo, rfl⟩ : ∃ wo : World, wo = wr := ⟨_, rfl⟩
   go_wp2
   go_loopw [6, 27] (fun v i wr => ∃ u : Value, v = u ∧ ((i = .int .i64 0 ∧ Aside0 (RN wr wo.heap.size u [])) ∨ (i = .int .i64 1 ∧ Aside0 (RN wr wo.heap.size u l0)) ∨ (i = .int .i64 2 ∧ Aside0 (RN wr wo.heap.size u (l0 ++ l1)))) ∧ Aside0 (Below wo.heap.size wo wr)) (fun _ i _ => 2 - (intOf i).toNat)
   case atStart => exact ⟨_, rfl, .inl ⟨rfl, HV⟩, HB⟩
   case round =>
    obtain ⟨u, rfl, ⟨hi, HU⟩ | ⟨hi, HU⟩ | ⟨hi, HU⟩, HW⟩ := hrel
    ·
     subst hi
     have g0 : wr.cell? ⟨g, 0, none⟩ = _ := (blk_cell (blk_keep HG.out HW.out) 0).trans rfl
     obtain ⟨u', w', hrun, hR', hgr, _⟩ := run_append_nodes wo.heap.size 22 u6 [] l0 A0 c0 wr HU.out (by rw [H0.out]; exact Kd.C_below HR0.out HW.out) HW.out.size (by simp only [List.length_append, List.length_nil, H0.out, H1.out]; omega)
     rw [H0.out] at hrun
     have HRUN := Aside0.mk hrun
     have HR2 := Aside0.mk hR'
     have HW2 := Aside0.mk (grown_on hgr HW.out (fun k e => R_base HU.out k e))
     clear hrun hR' hgr
     go_wp2_with (at_builtin; refine wpList_append_eq rfl (.tmp 31) (.tmp 32) 22 rfl rfl rfl HRUN.out ?_)
     go_roundw
     case rel => exact ⟨_, rfl, .inr (.inl ⟨by go_num, HR2⟩), HW2⟩
     case measure => simp [intOf]
    ·
     subst hi
     have g1 : wr.cell? ⟨g, 1, none⟩ = _ := (blk_cell (blk_keep HG.out HW.out) 1).trans rfl
     obtain ⟨u', w', hrun, hR', hgr, _⟩ := run_append_nodes wo.heap.size 22 u6 l0 l1 A1 c1 wr HU.out (by rw [H1.out]; exact Kd.C_below HR1.out HW.out) HW.out.size (by simp only [List.length_append, List.length_nil, H0.out, H1.out]; omega)
     rw [H1.out] at hrun
     have HRUN := Aside0.mk hrun
     have HR2 := Aside0.mk hR'
     have HW2 := Aside0.mk (grown_on hgr HW.out (fun k e => R_base HU.out k e))
     clear hrun hR' hgr
     go_wp2_with (at_builtin; refine wpList_append_eq rfl (.tmp 31) (.tmp 32) 22 rfl rfl rfl HRUN.out ?_)
     go_roundw
     case rel => exact ⟨_, rfl, .inr (.inr ⟨by go_num, HR2⟩), HW2⟩
     case measure => simp [intOf]
    ·
     subst hi
     go_wp2
     go_ret
     exact ⟨_, rfl, HU.out, HW.out⟩
end Go.Proofs.YtdheokololpnbaaGreatDoor.PWalk
end
section
namespace Go.MapLaw
open Go.Instr
open Go.ChangeMaps
open Go.MapKept (heap_alloc heap_set)
set_option linter.unusedSimpArgs false
/-- Block r is an iterator over the map in block b, which holds m; 'out' has come out, 'left' is still to come. -/
def MRange {κ β : Type} (enc : κ → Value) (val : β → Value) (w : World) (b r : Nat) (m out left : List (κ × β)) : Prop :=
 ∃ es clock since seen c0, w.heap[b]? = some (.map es clock) ∧ es.toList.map (fun e => (e.key, e.val)) = m.map (fun p => (enc p.1, val p.2)) ∧ w.heap[r]? = some (.mapIter (some b) since seen c0) ∧
  (∀ x ∈ es.toList, x.born < since) ∧ since ≤ c0 ∧ since ≤ clock ∧ es.toList.Pairwise (fun x y => x.born < y.born) ∧
  (leftOf es seen).toList.map (fun e => (e.key, e.val)) = left.map (fun p => (enc p.1, val p.2)) ∧ (out ++ left).Perm m
section
variable {κ β : Type} {P : Program} {K : TypeId} {enc : κ → Value} {val : β → Value} {w w' : World} {b r : Nat} {m out left : List (κ × β)}
theorem MRange.left_eq (h : MRange enc val w b r m out left) : w.rangeLeft b r = left.length := by
 obtain ⟨es, clock, since, seen, c0, hb, _, hr, _, _, _, _, hl, _⟩ := h
 have := congrArg List.length hl
 simp only [List.length_map, Array.length_toList] at this
 simp only [World.rangeLeft, hb, hr]
 exact this
theorem MRange.same (h : MRange enc val w b r m out left) (hb : w'.heap[b]? = w.heap[b]?) (hr : w'.heap[r]? = w.heap[r]?) : MRange enc val w' b r m out left := by
 obtain ⟨es, clock, since, seen, c0, h1, h2, h3, h4⟩ := h
 exact ⟨es, clock, since, seen, c0, hb.trans h1, h2, hr.trans h3, h4⟩
theorem MRange.lt (h : MRange enc val w b r m out left) : b < w.heap.size ∧ r < w.heap.size := by
 obtain ⟨es, clock, since, seen, c0, h1, h2, h3, h4⟩ := h
 exact ⟨(Array.getElem?_eq_some_iff.1 h1).1, (Array.getElem?_eq_some_iff.1 h3).1⟩
theorem MRange.done (h : MRange enc val w b r m out []) : out.Perm m := by
 obtain ⟨es, clock, since, seen, c0, _, _, _, _, _, _, _, _, hp⟩ := h
 rwa [List.append_nil] at hp
/-- 'range m'. -/
theorem MapIs.range {T E : TypeId} (h : MapIs enc val w b m) (hT : P.underlying T = some (.map K E)) :
  ∃ w', (Instr.range T (.map (some b))).run P w = .ok (.pointer (some ⟨w.heap.size, 0, none⟩)) w' ∧ MRange enc val w' b w.heap.size m [] m ∧ w.grownBy w' none ∧ w'.heap.size = w.heap.size + 1 := by
 have hlt := h.lt
 obtain ⟨es, clock, hb, h2, h3, h4⟩ := h
 refine ⟨_, run_range_map w T K E b es clock hT hb, ⟨es, clock, clock, #[], clock, ((MapKept.heap_alloc w _).2 b hlt).trans hb, h2, (MapKept.heap_alloc w _).1, h3, Nat.le_refl _, Nat.le_refl _, h4, ?_, List.Perm.refl _⟩, World.grownBy_alloc w _ none, by simp⟩
 rw [show leftOf es #[] = es by simp [leftOf]]
 exact h2
/-- The step. -/
theorem MRange.next (h : MRange enc val w b r m out left) (ty : TypeId) :
  (left = [] ∧ (Instr.next (.pointer (some ⟨r, 0, none⟩)) false ty).run P w = .ok (.tuple #[.bool false]) w) ∨
  ∃ k v left' w', (Instr.next (.pointer (some ⟨r, 0, none⟩)) false ty).run P w = .ok (.tuple #[.bool true, enc k, val v]) w' ∧ MRange enc val w' b r m (out ++ [(k, v)]) left' ∧ left'.length < left.length ∧ w.grownBy w' (some r) ∧ w'.heap.size = w.heap.size ∧
   (Instr.entry (.pointer (some ⟨r, 0, none⟩))).run P w' = .ok (.tuple #[enc k, val v]) w' := by
 obtain ⟨es, clock, since, seen, c0, hb, hm, hr, hold, hsc, hsk, hpw, hl, hp⟩ := h
 have hne : r ≠ b := by
  intro e
  rw [e, hb] at hr
  cases hr
 rcases run_next_at (P := P) w ty r b since c0 seen es clock hr hb hold hsc with ⟨h0, hrun⟩ | ⟨e, he, w1, hal, hrun⟩
 ·
  refine .inl ⟨?_, hrun⟩
  have := congrArg List.length hl
  simp only [List.length_map, Array.length_toList, h0] at this
  exact List.eq_nil_of_length_eq_zero this.symm
 ·
  obtain ⟨hem, hes⟩ := mem_left he
  have hr1 : w1.heap[r]? = some (.mapIter (some b) since seen c0) := by rcases hal with rfl | rfl <;> exact hr
  have hb1 : w1.heap[b]? = some (.map es clock) := by rcases hal with rfl | rfl <;> exact hb
  have hset := heap_set (o' := .mapIter (some b) since (seen.push e.born) clock) hr1
  have hb' : (setBlock w1 r (.mapIter (some b) since (seen.push e.born) clock)).heap[b]? = some (.map es clock) := (hset.2 b (fun e1 => hne e1.symm)).trans hb1
  have hnd : (es.toList.map (·.born)).Nodup := by
   rw [List.nodup_iff_pairwise_ne, List.pairwise_map]
   exact hpw.imp fun h => Nat.ne_of_lt h
  obtain ⟨L1, L2, hL⟩ := List.append_of_mem he
  have hnl : ((leftOf es seen).toList.map (·.born)).Nodup := by
   have hs : (leftOf es seen).toList.Sublist es.toList := by unfold leftOf; rw [Array.toList_filter]; exact List.filter_sublist
   exact List.Nodup.sublist (hs.map _) hnd
  have hL' : (leftOf es (seen.push e.born)).toList = L1 ++ L2 := by
   have h1 : (leftOf es (seen.push e.born)).toList = (leftOf es seen).toList.filter fun x => !(x.born == e.born) := by
    unfold leftOf
    rw [Array.toList_filter, Array.toList_filter, List.filter_filter]
    refine List.filter_congr fun x _ => ?_
    rw [contains_push]
    cases seen.contains x.born <;> cases (x.born == e.born) <;> rfl
   rw [h1, hL, List.filter_append, List.filter_cons]
   rw [hL, List.map_append, List.map_cons, List.nodup_append, List.nodup_cons] at hnl
   obtain ⟨_, ⟨hn1, _⟩, hn2⟩ := hnl
   have hq : ((!(e.born == e.born)) = true) = False := by simp
   simp only [hq, if_false]
   rw [List.filter_eq_self.2 fun x hx => ?_, List.filter_eq_self.2 fun x hx => ?_]
   ·
    have : x.born ≠ e.born := fun e1 => hn1 (by rw [← e1]; exact List.mem_map.2 ⟨x, hx, rfl⟩)
    simp [this]
   ·
    have : x.born ≠ e.born := fun e1 => hn2 _ (List.mem_map.2 ⟨x, hx, rfl⟩) _ (List.mem_cons_self ..) e1
    simp [this]
  rw [hL, List.map_append, List.map_cons] at hl
  obtain ⟨l1, l2, e1, e2, e3⟩ := List.map_eq_append_iff.1 hl.symm
  obtain ⟨p, l2, rfl, e4, e5⟩ := List.map_eq_cons_iff.1 e3
  obtain ⟨k, v⟩ := p
  simp only [Prod.mk.injEq] at e4
  subst e1
  have hk1 : e.key = enc k := e4.1.symm
  have hv1 : e.val = val v := e4.2.symm
  have hent := run_entry_at (P := P) _ r b since seen es clock e hset.1 hb' hem hnd
  rw [hk1, hv1] at hent hrun
  refine .inr ⟨k, v, l1 ++ l2, _, hrun, ⟨es, clock, since, seen.push e.born, clock, hb', hm, hset.1, hold, hsk, hsk, hpw, ?_, ?_⟩, ?_, ?_, ?_, hent⟩
  ·
   rw [hL', List.map_append, List.map_append, e2, e5]
  ·
   refine List.Perm.trans ?_ hp
   rw [List.append_assoc]
   refine List.Perm.append_left out ?_
   show ((k, v) :: (l1 ++ l2)).Perm (l1 ++ (k, v) :: l2)
   exact List.perm_middle.symm
  ·
   simp only [List.length_append, List.length_cons]; omega
  ·
   rcases hal with rfl | rfl <;> exact ⟨rfl, rfl, rfl, by simp [setBlock], fun i _ hi => hset.2 i (fun e1 => hi (by rw [e1]))⟩
  ·
   rcases hal with rfl | rfl <;> simp [setBlock]
end
section
variable {κ β : Type} {P : Program} {K : TypeId} {enc : κ → Value} {val : β → Value} {b r : Nat} {m out left : List (κ × β)} {ops : Array Oper} {rest : List Oper} {o : Oper} {a : Act} {Q : Exit → Act → World → Prop}
/-- 'range m' as an operation of a walk. -/
theorem wpList_range {w : World} (hg : o.guard = none) (x : Operand) (T : TypeId) (hop : o.op = Op.range T x) {E : TypeId} (hT : P.underlying T = some (.map K E)) (hx : a.eval x = .map (some b)) (h : MapIs enc val w b m)
  (hK : ∀ w', MRange enc val w' b w.heap.size m [] m → w.grownBy w' none → w'.heap.size = w.heap.size + 1 → wpList P ops Q rest (a.put o.dst (.pointer (some ⟨w.heap.size, 0, none⟩))) w') :
  wpList P ops Q (o :: rest) a w := by
 refine wpList_plain hg fun K' hK' => ?_
 obtain ⟨w', hrun, r1, r2, r3⟩ := h.range hT
 unfold Oper.wp
 simp [execOp, hop, hx, hrun, Result.andThen]
 exact hK' _ _ (hK w' r1 r2 r3)
/-- The step as an operation of a walk. -/
theorem wpList_next {w : World} (hg : o.guard = none) (it : Operand) (hop : o.op = Op.next it false) (hit : a.eval it = .pointer (some ⟨r, 0, none⟩)) (h : MRange enc val w b r m out left)
  (hDone : left = [] → wpList P ops Q rest (a.put o.dst (.tuple #[.bool false])) w)
  (hMore : ∀ k v left' w', MRange enc val w' b r m (out ++ [(k, v)]) left' → left'.length < left.length → w.grownBy w' (some r) → w'.heap.size = w.heap.size →
   (Instr.entry (.pointer (some ⟨r, 0, none⟩))).run P w' = .ok (.tuple #[enc k, val v]) w' → wpList P ops Q rest (a.put o.dst (.tuple #[.bool true, enc k, val v])) w') :
  wpList P ops Q (o :: rest) a w := by
 refine wpList_plain hg fun K' hK' => ?_
 unfold Oper.wp
 rcases h.next (P := P) o.type with ⟨h0, hrun⟩ | ⟨k, v, left', w', hrun, h1, h2, h3, h4, h5⟩
 ·
  simp [execOp, hop, hit, hrun, Result.andThen]
  exact hK' _ _ (hDone h0)
 ·
  simp [execOp, hop, hit, hrun, Result.andThen]
  exact hK' _ _ (hMore k v left' w' h1 h2 h3 h4 h5)
end
end Go.MapLaw
end
section
namespace Go.Proofs.YtdheokololpnbaaGreatDoor.PWalk
open Go.RowKit Go.Proofs.YtdheokololpnbaaGreatDoorW.PrintWords Go.Proofs.YtdheokololpnbaaGreatDoorW.PrintLast Go.Proofs.YtdheokololpnbaaGreatDoorW.PrintMore
set_option linter.unusedVariables false
set_option linter.unusedSimpArgs false
open Go.Shelf
attribute [local go_sem] Oper.semAt_some
theorem dot_at {w wr : World} {A : Option Addr} {n : Nat} {xs : List Dot} (h : Kd.C k33 w A n xs) (hb : Below w.heap.size w wr) (k : Nat) (x : Dot) (hk : xs[k]? = some x) :
  ∃ ad, A = some ad ∧ wr.cell? (ad.add (k * 2)) = some (.int .i64 x.f0) ∧ wr.cell? ⟨(ad.add (k * 2)).block, (ad.add (k * 2)).off + 1, none⟩ = some (.int .i64 x.f1) := by
 have hl := Kd.C_len h
 have hlt := (List.getElem?_eq_some_iff.1 hk).1
 obtain ⟨ad, e, h0, h1⟩ := at_T33 h (k : Int) (by omega) (by omega)
 have hd : rd_T33 xs (k : Int) = x := by simp [rd_T33, hk]
 rw [hd] at h0 h1
 simp only [Int.toNat_natCast] at h0 h1
 exact ⟨ad, e, pw_cell_below hb h0, pw_cell_below hb h1⟩
instance : Inhabited Dot := ⟨⟨0, 0⟩⟩
theorem swoD : Go.Sort.SWO (ltOf dotCmp) := by
 have e : ltOf dotCmp = dotLt := by funext x y; exact dotCmp_lt x y
 rw [e]
 exact ⟨dotLt_irrefl, fun _ _ _ h k => dotLt_trans h k, fun a b c h k => by
  unfold dotLt at *
  simp only [decide_eq_false_iff_not] at *
  omega⟩
set_option maxRecDepth 100000 in
theorem sortD_call (base n : Nat) (u : Value) (xs : List Dot) (w : World) (h : RD w base u xs) (hl : xs.length ≤ 1000000) :
  Calls Tryz.prog 42 #[u, .func (.func 40) #[] #[]] w fun e w' => e = .returned (.tuple #[]) ∧ ∃ ys, RD w' base u ys ∧ ys.Perm xs ∧ ys.Pairwise (fun a b => dotLt b a = false) ∧ Tch (fun i => u.ownBlock = some i) w w' := by
 obtain ⟨hcl, ho⟩ := dcells_of_R h
 rcases ho with ⟨h0, h1⟩ | ⟨g, cap, cur, he, hbg, hcur, hle, hmx, hsz, htk⟩
 ·
  subst h0
  have hx : xs = [] := List.length_eq_zero_iff.1 h1
  subst hx
  refine (Go.Proofs.AnyF.slices_SortFunc_none Tryz.sortDot none 0 (.func (.func 40) #[] #[]) w).mono ?_
  rintro e w' ⟨rfl, rfl⟩
  exact ⟨rfl, [], h, List.Perm.refl _, List.Pairwise.nil, ⟨rfl, rfl, rfl, Nat.le_refl _, fun _ _ _ => rfl⟩⟩
 subst he
 obtain ⟨n, hn⟩ : ∃ n, xs.length = n := ⟨_, rfl⟩
 rw [hn] at hle htk h hcl ⊢
 have hds : xs.toArray.size = n := by rw [List.size_toArray]; exact hn
 have hH := row_holds dotCells 2 (fun _ => rfl) (by decide) (d := xs.toArray) hcur hds htk
 have hcon := Go.Proofs.AnyQ.slices_SortFunc Tryz.sortDot 2 Tryz.isAgg33 Tryz.sizeOf33 dotCells (fun _ => rfl) (fun x v hv => done_cells [x] v (by simpa [dcellsOf] using hv)) dotCmp swoD 40 #[] g 0 cap xs.toArray w Tryz.call40 (fun m os dk hs x y => dotCmp_call x y _) hH (blk_lt hcur) (by rw [hds]; omega)
 rw [hds] at hcon
 refine hcon.mono ?_
 rintro e w' ⟨rfl, d', m, os, hp, hs, rfl⟩
 have hd' : d'.size = n := hp.1.trans hds
 obtain ⟨⟨cur', h1, h2, h3⟩, ht⟩ := row_sorted dotCells 2 (fun _ => rfl) (by decide) (d' := d') hcur hsz hd' hle m os
 have hperm : d'.toList.Perm xs := by
  have := hp.2.2
  rw [hd'.symm, Array.extract_size, hd', ← hds, Array.extract_size] at this
  exact this
 have hlen : d'.toList.length = n := by rw [Array.length_toList]; exact hd'
 refine ⟨rfl, d'.toList, RD_of_cells ⟨by rw [dcellsOf_length], .inr ⟨g, cap, cur', by rw [hlen], hbg, h1, by rw [hlen]; exact hle, hmx, h2, by rw [hlen, h3]; rfl⟩⟩, hperm, ?_, ht⟩
 refine List.pairwise_iff_getElem.2 fun i j hi hj hij => ?_
 have := hs i j (Nat.zero_le _) hij (by rw [Array.length_toList, hd'] at hj; omega)
 rw [Array.length_toList] at hi hj
 rw [getElem!_pos d' j hj, getElem!_pos d' i hi] at this
 rw [← dotCmp_lt]
 simpa [ltOf] using this
structure EntsD (W : World) (A : Option Addr) (n : Nat) (ks : List Dot) : Prop where
 kl : ks.length = n
 small : n ≤ 1000000
 row : ∀ i k, ks[i]? = some k → ∃ eb, A = some ⟨eb, 0, none⟩ ∧ W.cell? ⟨eb, i * 2, none⟩ = some (.int .i64 k.f0) ∧ W.cell? ⟨eb, i * 2 + 1, none⟩ = some (.int .i64 k.f1)
theorem EntsD.get {W : World} {A : Option Addr} {n : Nat} {ks : List Dot} (h : EntsD W A n ks) {i : Nat} (hi : i < n) : ∃ k eb, ks[i]? = some k ∧ A = some ⟨eb, 0, none⟩ ∧ W.cell? ⟨eb, i * 2, none⟩ = some (.int .i64 k.f0) ∧ W.cell? ⟨eb, i * 2 + 1, none⟩ = some (.int .i64 k.f1) := by
 have h1 : i < ks.length := by rw [h.kl]; exact hi
 obtain ⟨eb, e, c0, c1⟩ := h.row i _ (List.getElem?_eq_getElem h1)
 exact ⟨_, eb, List.getElem?_eq_getElem h1, e, c0, c1⟩
theorem EntsD.of {W : World} {base : Nat} {A : Option Addr} {n c : Nat} {ks : List Dot} (h : RD W base (.slice A n c) ks) (hl : ks.length ≤ 1000000) : EntsD W A n ks := by
 have h' := dcells_of_R h
 rcases h'.2 with ⟨e, h0⟩ | ⟨g, c', cur, e, hb, hcur, h1, h2, h3, h4⟩
 ·
  cases e
  have : ks = [] := List.length_eq_zero_iff.1 h0
  subst this
  exact ⟨rfl, Nat.zero_le _, fun i k hk => by simp at hk⟩
 ·
  cases e
  refine ⟨rfl, hl, fun i k hk => ⟨g, rfl, ?_⟩⟩
  have hi := (List.getElem?_eq_some_iff.1 hk).1
  have hc : ∀ j u, (dotCells k)[j]? = some u → W.cell? ⟨g, i * 2 + j, none⟩ = some u := fun j u hu => by
   have hj : j < 2 := (List.getElem?_eq_some_iff.1 hu).1
   rw [h'.cellAt (i * 2 + j) (by omega)]
   have h5 := dcellsOf_drop_take ks i k hk
   have h6 : (((dcellsOf ks).drop (i * 2)).take 2)[j]? = some u := by rw [h5]; exact hu
   rw [List.getElem?_take, if_pos hj, List.getElem?_drop] at h6
   exact h6
  exact ⟨hc 0 _ rfl, hc 1 _ rfl⟩
def bdrInv (w : World) (B eb n c : Nat) (d : Dot) (i j h : Nat) (k : Dot) (z12 z13 z14 z15 z16 z17 z18 z19 z20 z21 z22 z23 u24 u25 u26 u27 u28 u29 u30 u31 u32 u33 u34 : Value) (L : Array Bool) (ac : Act) (V : World) : Prop := ∃ (l0 l1 l2 l3 l4 l5 l6 l7 : Bool), L = #[l0, l1, l2, l3, l4, l5, l6, l7] ∧ ac = { tmps := #[.slice (some ⟨eb, 0, none⟩) n c, vDot d, .func (.func 40) #[] #[], undef, .pointer (some ⟨B, 0, none⟩), undef, .int .i64 0, .bool false, .int .i64 n, .int .i64 i, .int .i64 j, .int .i64 h, z12, z13, z14, z15, z16, z17, z18, z19, z20, z21, z22, z23, selv l0 (.func (.func 40) #[] #[]) (u24), selv l1 (.slice (some ⟨eb, 0, none⟩) n c) (u25), selv l2 (.int .i64 h) (u26), selv l3 (.pointer (some ⟨eb, h * 2, none⟩)) (u27), selv l4 (vDot k) (u28), selv l5 (vDot d) (u29), selv l6 (.int .i64 (dotCmp k d)) (u30), selv l7 (.bool (decide (dotCmp k d < 0))) (u31), u32, u33, u34, undef, undef, undef, undef, undef, undef, undef, undef, undef, undef, undef, undef, undef, undef], defers := [] } ∧ Aside0 (Bs w d V)
def bdtInv (w : World) (B eb n c : Nat) (d : Dot) (q : Nat) (k : Dot) (y11 y12 y13 y14 y15 y16 y17 y18 y19 y20 y21 y22 y23 y24 y25 y26 y27 y28 y29 y30 y31 y32 y33 y34 : Value) (L : Array Bool) (ac : Act) (V : World) : Prop := ∃ (l0 l1 l2 l3 l4 l5 l6 l7 l8 l9 l10 l11 l12 l13 l14 l15 : Bool), L = #[l0, l1, l2, l3, l4, l5, l6, l7, l8, l9, l10, l11, l12, l13, l14, l15] ∧ ac = { tmps := #[.slice (some ⟨eb, 0, none⟩) n c, vDot d, .func (.func 40) #[] #[], undef, .pointer (some ⟨B, 0, none⟩), undef, selv l14 (.int .i64 q) (.int .i64 0), selv l15 (.bool (dotCmp k d == 0)) (.bool false), .int .i64 n, .int .i64 q, .int .i64 q, y11, y12, y13, y14, y15, y16, y17, y18, y19, y20, y21, y22, y23, y24, y25, y26, y27, y28, y29, y30, y31, y32, y33, y34, sel l0 (.int .i64 q), sel l1 (.int .i64 q), sel l2 (.int .i64 n), sel l3 (.bool true), sel l4 (.bool true), sel l5 (.func (.func 40) #[] #[]), sel l6 (.slice (some ⟨eb, 0, none⟩) n c), sel l7 (.int .i64 q), sel l8 (.pointer (some ⟨eb, q * 2, none⟩)), sel l9 (vDot k), sel l10 (vDot d), sel l11 (.int .i64 (dotCmp k d)), sel l12 (.bool (dotCmp k d == 0)), sel l13 (.bool (dotCmp k d == 0))], defers := [] } ∧ Aside0 (Bs w d V)
def bdfInv (w : World) (A : Option Addr) (B n c : Nat) (d : Dot) (y11 y12 y13 y14 y15 y16 y17 y18 y19 y20 y21 y22 y23 y24 y25 y26 y27 y28 y29 y30 y31 y32 y33 y34 : Value) (L : Array Bool) (ac : Act) (V : World) : Prop := ∃ (l0 l1 l2 l3 l4 l5 l6 l7 l8 l9 l10 l11 l12 l13 l14 l15 : Bool), L = #[l0, l1, l2, l3, l4, l5, l6, l7, l8, l9, l10, l11, l12, l13, l14, l15] ∧ ac = { tmps := #[.slice A n c, vDot d, .func (.func 40) #[] #[], undef, .pointer (some ⟨B, 0, none⟩), undef, selv l14 (.int .i64 n) (.int .i64 0), selv l15 (.bool false) (.bool false), .int .i64 n, .int .i64 n, .int .i64 n, y11, y12, y13, y14, y15, y16, y17, y18, y19, y20, y21, y22, y23, y24, y25, y26, y27, y28, y29, y30, y31, y32, y33, y34, sel l0 (.int .i64 n), sel l1 (.int .i64 n), sel l2 (.int .i64 n), sel l3 (.bool false), sel l4 (.bool false), sel l5 (undef), sel l6 (undef), sel l7 (undef), sel l8 (undef), sel l9 (undef), sel l10 (undef), sel l11 (undef), sel l12 (undef), sel l13 (.bool false)], defers := [] } ∧ Aside0 (Bs w d V)
set_option maxHeartbeats 2000000 in
set_option maxRecDepth 100000 in
theorem bsearchD_call (ks : List Dot) (A : Option Addr) (n c : Nat) (d : Dot) (w : World) (hs : incB ks = true) (he : EntsD w A n ks) :
  Calls Tryz.prog 45 #[.slice A n c, vDot d, .func (.func 40) #[] #[]] w fun e w' => e = .returned (.tuple #[.int .i64 (posK ks d), .bool (hasK ks d)]) ∧ Below w.heap.size w w' := by
 have HE := Aside0.mk he
 have HS := Aside0.mk hs
 have hn := he.small
 have HQN : Aside0 (posK ks d ≤ n) := ⟨by rw [← he.kl]; exact posK_le ks d⟩
 clear he hs
 obtain ⟨q, HQ⟩ : ∃ q, Aside0 (posK ks d = q) := ⟨_, ⟨rfl⟩⟩
 obtain ⟨hf, HHF⟩ : ∃ hf, Aside0 (hasK ks d = hf) := ⟨_, ⟨rfl⟩⟩
 rw [HQ.out, HHF.out]
 rw [HQ.out] at HQN
 have HB0 : Aside0 (Bs w d (w.alloc (.cells #[.int .i64 d.f0, .int .i64 d.f1] 33 (0, 0)))) := ⟨(Gr.alloc w _).below, blk_new _ _⟩
 go_enter Tryz.func45, Tryz.ntmps45
 go_wp2
 go_loopw [9, 10] (fun i j wr => ∃ i' j' : Nat, i' ≤ q ∧ q ≤ j' ∧ j' ≤ n ∧ i = .int .i64 i' ∧ j = .int .i64 j' ∧ Aside0 (Bs w d wr)) (fun i j _ => (intOf j - intOf i).toNat)
 case atStart => exact ⟨0, n, Nat.zero_le _, HQN.out, Nat.le_refl _, rfl, rfl, HB0⟩
 case round =>
  obtain ⟨i, j, hi, hj, hjn, rfl, rfl, HB⟩ := hrel
  clear HB0
  by_cases hlt : i < j
  ·
   have hlb : decide ((i : Int) < (j : Int)) = true := decide_eq_true (by omega)
   obtain ⟨h, Hh⟩ : ∃ h : Nat, h = (i + j) / 2 := ⟨_, rfl⟩
   have hm : ((i : Int) + (j : Int)) / 2 = (h : Int) := by omega
   have HH : Aside0 (h < n) := ⟨by omega⟩
   have HIJ : Aside0 (i ≤ h ∧ h < j) := ⟨by omega⟩
   clear Hh
   obtain ⟨k, eb, hk, rfl, c0, c1⟩ := HE.out.get HH.out
   have HC := Aside0.mk (And.intro c0 c1)
   have HL : Aside0 (dotLt k d = true ↔ h < q) := ⟨by rw [← HQ.out]; exact posK_iff HS.out d hk⟩
   clear c0 c1 hk
   go_wp2_with fail
   refine AnyOrder.wp_region (by kernel_rfl) (bdrInv w w.heap.size eb n c d i j h k (.slice (some ⟨eb, 0, none⟩) n c) (.int .i64 n) (.int .i64 n) (.int .i64 i) (.int .i64 j) (.bool true) (.int .i64 i) (.int .i64 j) (.int .i64 ((i : Int) + (j : Int))) (.int .u64 ((i : Int) + (j : Int))) (.int .u64 h) (.int .i64 h) u24 u25 u26 u27 u28 u29 u30 u31 u32 u33 u34) ⟨false, false, false, false, false, false, false, false, rfl, rfl, ⟨HB.out.drew⟩⟩ ?step ?last
   case step =>
    rintro L ac V i ⟨l0, l1, l2, l3, l4, l5, l6, l7, rfl, rfl, HF⟩ hi K hK
    have h1 : i = 0 ∨ i = 1 ∨ i = 2 ∨ i = 3 ∨ i = 4 ∨ i = 5 ∨ i = 6 ∨ i = 7 := by
     have h1 := (AnyOrder.mem_ready hi).1
     clear hi hK
     change i < 8 at h1
     omega
    rcases h1 with rfl | rfl | rfl | rfl | rfl | rfl | rfl | rfl
    ·
     obtain rfl : l0 = false := (AnyOrder.mem_ready hi).2.1
     clear hi
     refine AnyOrder.wpOp_go rfl (by rfl) ?_
     go_wp2_with fail
     exact ⟨true, l1, l2, l3, l4, l5, l6, l7, rfl, rfl, HF⟩
    ·
     obtain rfl : l1 = false := (AnyOrder.mem_ready hi).2.1
     clear hi
     refine AnyOrder.wpOp_go rfl (by rfl) ?_
     go_wp2_with fail
     exact ⟨l0, true, l2, l3, l4, l5, l6, l7, rfl, rfl, HF⟩
    ·
     obtain rfl : l2 = false := (AnyOrder.mem_ready hi).2.1
     clear hi
     refine AnyOrder.wpOp_go rfl (by rfl) ?_
     go_wp2_with fail
     exact ⟨l0, l1, true, l3, l4, l5, l6, l7, rfl, rfl, HF⟩
    ·
     obtain rfl : l3 = false := (AnyOrder.mem_ready hi).2.1
     obtain rfl : l1 = true := AnyOrder.dep (q := 0) hi rfl rfl rfl
     obtain rfl : l2 = true := AnyOrder.dep (q := 1) hi rfl rfl rfl
     clear hi
     simp only [sel_true, selv_true] at hK ⊢
     have hh := HH.out
     refine AnyOrder.wpOp_go rfl (by rfl) ?_
     go_wp2_with fail
     exact ⟨l0, true, true, true, l4, l5, l6, l7, rfl, rfl, HF⟩
    ·
     obtain rfl : l4 = false := (AnyOrder.mem_ready hi).2.1
     obtain rfl : l3 = true := AnyOrder.dep (q := 0) hi rfl rfl rfl
     clear hi
     simp only [sel_true, selv_true] at hK ⊢
     obtain ⟨q0, q1⟩ := HC.out
     have e0 : V.cell? ⟨eb, h * 2, none⟩ = _ := pw_cell_below HF.out.below q0
     have e1 : V.cell? ⟨eb, h * 2 + 1, none⟩ = _ := pw_cell_below HF.out.below q1
     clear q0 q1
     refine AnyOrder.wpOp_go rfl (by rfl) ?_
     go_wp2_with fail
     exact ⟨l0, l1, l2, true, true, l5, l6, l7, rfl, rfl, HF⟩
    ·
     obtain rfl : l5 = false := (AnyOrder.mem_ready hi).2.1
     clear hi
     have d0 : V.cell? ⟨w.heap.size, 0, none⟩ = _ := (blk_cell HF.out.box 0).trans rfl
     have d1 : V.cell? ⟨w.heap.size, 1, none⟩ = _ := (blk_cell HF.out.box 1).trans rfl
     refine AnyOrder.wpOp_go rfl (by rfl) ?_
     go_wp2_with fail
     exact ⟨l0, l1, l2, l3, l4, true, l6, l7, rfl, rfl, HF⟩
    ·
     obtain rfl : l6 = false := (AnyOrder.mem_ready hi).2.1
     obtain rfl : l0 = true := AnyOrder.dep (q := 0) hi rfl rfl rfl
     obtain rfl : l4 = true := AnyOrder.dep (q := 1) hi rfl rfl rfl
     obtain rfl : l5 = true := AnyOrder.dep (q := 2) hi rfl rfl rfl
     clear hi
     simp only [sel_true, selv_true] at hK ⊢
     refine AnyOrder.wpOp_go rfl (by rfl) ?_
     go_wp2_with fail
     refine (dotCmp_call k d V).mono ?_
     rintro e V' ⟨rfl, hb⟩
     exact hK _ _ ⟨true, l1, l2, l3, true, true, true, l7, rfl, rfl, ⟨HF.out.more hb.below⟩⟩
    ·
     obtain rfl : l7 = false := (AnyOrder.mem_ready hi).2.1
     obtain rfl : l6 = true := AnyOrder.dep (q := 0) hi rfl rfl rfl
     clear hi
     simp only [sel_true, selv_true] at hK ⊢
     refine AnyOrder.wpOp_go rfl (by rfl) ?_
     go_wp2_with fail
     exact ⟨l0, l1, l2, l3, l4, l5, true, true, rfl, rfl, HF⟩
   case last =>
    rintro L ac V ⟨l0, l1, l2, l3, l4, l5, l6, l7, rfl, rfl, HF⟩ hr
    have hall := AnyOrder.all_listed rfl (by kernel_rfl) hr
    clear hr
    obtain rfl : l0 = true := hall 0 (by decide)
    obtain rfl : l1 = true := hall 1 (by decide)
    obtain rfl : l2 = true := hall 2 (by decide)
    obtain rfl : l3 = true := hall 3 (by decide)
    obtain rfl : l4 = true := hall 4 (by decide)
    obtain rfl : l5 = true := hall 5 (by decide)
    obtain rfl : l6 = true := hall 6 (by decide)
    obtain rfl : l7 = true := hall 7 (by decide)
    clear hall
    simp only [sel_true, selv_true]
    clear hm
    rw [dotCmp_lt]
    cases hd : dotLt k d with
    | true =>
     have hw1 : wrap64 ((h : Int) + 1) = ((h + 1 : Nat) : Int) := by unfold wrap64; have := HH.out; omega
     have h2 := HL.out.1 hd
     have HIJ2 := HIJ.out
     clear hd
     go_wp2_with fail
     refine ⟨⟨h + 1, j, by omega, hj, hjn, by (first | rfl | (rw [hw1])), rfl, HF⟩, ?_⟩
     simp [intOf]; omega
    | false =>
     have h2 : ¬ h < q := fun e => by have := HL.out.2 e; rw [hd] at this; cases this
     have HIJ2 := HIJ.out
     clear hd
     go_wp2_with fail
     refine ⟨⟨i, h, hi, by omega, by omega, rfl, rfl, HF⟩, ?_⟩
     simp [intOf]; omega
  ·
   obtain rfl : q = i := by omega
   obtain rfl : q = j := by omega
   have hlb : decide ((q : Int) < (q : Int)) = false := decide_eq_false (by omega)
   by_cases hq : q < n
   ·
    have HH := Aside0.mk hq
    obtain ⟨k, eb, hk, rfl, c0, c1⟩ := HE.out.get HH.out
    have HC := Aside0.mk (And.intro c0 c1)
    have HR : Aside0 (hf = (dotCmp k d == 0)) := ⟨by rw [← HHF.out, hasK, HQ.out, hk, dotCmp_eq]; simp⟩
    clear c0 c1 hk
    go_wp2_with fail
    refine AnyOrder.wp_region (by kernel_rfl) (bdtInv w w.heap.size eb n c d q k u11 (.slice (some ⟨eb, 0, none⟩) n c) (.int .i64 n) (.int .i64 n) (.int .i64 q) (.int .i64 q) (.bool false) u18 u19 u20 u21 u22 u23 u24 u25 u26 u27 u28 u29 u30 u31 u32 u33 u34) ⟨false, false, false, false, false, false, false, false, false, false, false, false, false, false, false, false, rfl, rfl, ⟨HB.out.drew⟩⟩ ?step ?last
    case step =>
     rintro L ac V i ⟨l0, l1, l2, l3, l4, l5, l6, l7, l8, l9, l10, l11, l12, l13, l14, l15, rfl, rfl, HF⟩ hi K hK
     have h1 : i = 0 ∨ i = 1 ∨ i = 2 ∨ i = 3 ∨ i = 4 ∨ i = 5 ∨ i = 6 ∨ i = 7 ∨ i = 8 ∨ i = 9 ∨ i = 10 ∨ i = 11 ∨ i = 12 ∨ i = 13 ∨ i = 14 ∨ i = 15 := by
      have h1 := (AnyOrder.mem_ready hi).1
      clear hi hK
      change i < 16 at h1
      omega
     rcases h1 with rfl | rfl | rfl | rfl | rfl | rfl | rfl | rfl | rfl | rfl | rfl | rfl | rfl | rfl | rfl | rfl
     ·
      obtain rfl : l0 = false := (AnyOrder.mem_ready hi).2.1
      clear hi
      refine AnyOrder.wpOp_go rfl (by rfl) ?_
      go_wp2_with fail
      exact ⟨true, l1, l2, l3, l4, l5, l6, l7, l8, l9, l10, l11, l12, l13, l14, l15, rfl, rfl, HF⟩
     ·
      obtain rfl : l1 = false := (AnyOrder.mem_ready hi).2.1
      clear hi
      refine AnyOrder.wpOp_go rfl (by rfl) ?_
      go_wp2_with fail
      exact ⟨l0, true, l2, l3, l4, l5, l6, l7, l8, l9, l10, l11, l12, l13, l14, l15, rfl, rfl, HF⟩
     ·
      obtain rfl : l2 = false := (AnyOrder.mem_ready hi).2.1
      clear hi
      refine AnyOrder.wpOp_go rfl (by rfl) ?_
      go_wp2_with fail
      exact ⟨l0, l1, true, l3, l4, l5, l6, l7, l8, l9, l10, l11, l12, l13, l14, l15, rfl, rfl, HF⟩
     ·
      obtain rfl : l3 = false := (AnyOrder.mem_ready hi).2.1
      obtain rfl : l1 = true := AnyOrder.dep (q := 0) hi rfl rfl rfl
      obtain rfl : l2 = true := AnyOrder.dep (q := 1) hi rfl rfl rfl
      clear hi
      simp only [sel_true, selv_true] at hK ⊢
      have hh : decide ((q : Int) < (n : Int)) = true := decide_eq_true (by have := HH.out; omega)
      refine AnyOrder.wpOp_go rfl (by rfl) ?_
      go_wp2_with fail
      exact ⟨l0, true, true, true, l4, l5, l6, l7, l8, l9, l10, l11, l12, l13, l14, l15, rfl, rfl, HF⟩
     ·
      obtain rfl : l4 = false := (AnyOrder.mem_ready hi).2.1
      obtain rfl : l3 = true := AnyOrder.dep (q := 0) hi rfl rfl rfl
      clear hi
      simp only [sel_true, selv_true] at hK ⊢
      refine AnyOrder.wpOp_go rfl (by rfl) ?_
      go_wp2_with fail
      exact ⟨l0, l1, l2, true, true, l5, l6, l7, l8, l9, l10, l11, l12, l13, l14, l15, rfl, rfl, HF⟩
     ·
      obtain rfl : l5 = false := (AnyOrder.mem_ready hi).2.1
      obtain rfl : l4 = true := AnyOrder.dep (q := 0) hi rfl rfl rfl
      clear hi
      simp only [sel_true, selv_true] at hK ⊢
      refine AnyOrder.wpOp_go rfl (by rfl) ?_
      go_wp2_with fail
      exact ⟨l0, l1, l2, l3, true, true, l6, l7, l8, l9, l10, l11, l12, l13, l14, l15, rfl, rfl, HF⟩
     ·
      obtain rfl : l6 = false := (AnyOrder.mem_ready hi).2.1
      obtain rfl : l4 = true := AnyOrder.dep (q := 0) hi rfl rfl rfl
      clear hi
      simp only [sel_true, selv_true] at hK ⊢
      refine AnyOrder.wpOp_go rfl (by rfl) ?_
      go_wp2_with fail
      exact ⟨l0, l1, l2, l3, true, l5, true, l7, l8, l9, l10, l11, l12, l13, l14, l15, rfl, rfl, HF⟩
     ·
      obtain rfl : l7 = false := (AnyOrder.mem_ready hi).2.1
      obtain rfl : l4 = true := AnyOrder.dep (q := 0) hi rfl rfl rfl
      clear hi
      simp only [sel_true, selv_true] at hK ⊢
      refine AnyOrder.wpOp_go rfl (by rfl) ?_
      go_wp2_with fail
      exact ⟨l0, l1, l2, l3, true, l5, l6, true, l8, l9, l10, l11, l12, l13, l14, l15, rfl, rfl, HF⟩
     ·
      obtain rfl : l8 = false := (AnyOrder.mem_ready hi).2.1
      obtain rfl : l6 = true := AnyOrder.dep (q := 0) hi rfl rfl rfl
      obtain rfl : l7 = true := AnyOrder.dep (q := 1) hi rfl rfl rfl
      obtain rfl : l4 = true := AnyOrder.dep (q := 2) hi rfl rfl rfl
      clear hi
      simp only [sel_true, selv_true] at hK ⊢
      have hh := HH.out
      refine AnyOrder.wpOp_go rfl (by rfl) ?_
      go_wp2_with fail
      exact ⟨l0, l1, l2, l3, true, l5, true, true, true, l9, l10, l11, l12, l13, l14, l15, rfl, rfl, HF⟩
     ·
      obtain rfl : l9 = false := (AnyOrder.mem_ready hi).2.1
      obtain rfl : l8 = true := AnyOrder.dep (q := 0) hi rfl rfl rfl
      obtain rfl : l4 = true := AnyOrder.dep (q := 1) hi rfl rfl rfl
      clear hi
      simp only [sel_true, selv_true] at hK ⊢
      obtain ⟨q0, q1⟩ := HC.out
      have e0 : V.cell? ⟨eb, q * 2, none⟩ = _ := pw_cell_below HF.out.below q0
      have e1 : V.cell? ⟨eb, q * 2 + 1, none⟩ = _ := pw_cell_below HF.out.below q1
      clear q0 q1
      refine AnyOrder.wpOp_go rfl (by rfl) ?_
      go_wp2_with fail
      exact ⟨l0, l1, l2, l3, true, l5, l6, l7, true, true, l10, l11, l12, l13, l14, l15, rfl, rfl, HF⟩
     ·
      obtain rfl : l10 = false := (AnyOrder.mem_ready hi).2.1
      obtain rfl : l4 = true := AnyOrder.dep (q := 0) hi rfl rfl rfl
      clear hi
      simp only [sel_true, selv_true] at hK ⊢
      have d0 : V.cell? ⟨w.heap.size, 0, none⟩ = _ := (blk_cell HF.out.box 0).trans rfl
      have d1 : V.cell? ⟨w.heap.size, 1, none⟩ = _ := (blk_cell HF.out.box 1).trans rfl
      refine AnyOrder.wpOp_go rfl (by rfl) ?_
      go_wp2_with fail
      exact ⟨l0, l1, l2, l3, true, l5, l6, l7, l8, l9, true, l11, l12, l13, l14, l15, rfl, rfl, HF⟩
     ·
      obtain rfl : l11 = false := (AnyOrder.mem_ready hi).2.1
      obtain rfl : l5 = true := AnyOrder.dep (q := 0) hi rfl rfl rfl
      obtain rfl : l9 = true := AnyOrder.dep (q := 1) hi rfl rfl rfl
      obtain rfl : l10 = true := AnyOrder.dep (q := 2) hi rfl rfl rfl
      obtain rfl : l4 = true := AnyOrder.dep (q := 3) hi rfl rfl rfl
      clear hi
      simp only [sel_true, selv_true] at hK ⊢
      refine AnyOrder.wpOp_go rfl (by rfl) ?_
      go_wp2_with fail
      refine (dotCmp_call k d V).mono ?_
      rintro e V' ⟨rfl, hb⟩
      exact hK _ _ ⟨l0, l1, l2, l3, true, true, l6, l7, l8, true, true, true, l12, l13, l14, l15, rfl, rfl, ⟨HF.out.more hb.below⟩⟩
     ·
      obtain rfl : l12 = false := (AnyOrder.mem_ready hi).2.1
      obtain rfl : l11 = true := AnyOrder.dep (q := 0) hi rfl rfl rfl
      obtain rfl : l4 = true := AnyOrder.dep (q := 1) hi rfl rfl rfl
      clear hi
      simp only [sel_true, selv_true] at hK ⊢
      refine AnyOrder.wpOp_go rfl (by rfl) ?_
      go_wp2_with fail
      exact ⟨l0, l1, l2, l3, true, l5, l6, l7, l8, l9, l10, true, true, l13, l14, l15, rfl, rfl, HF⟩
     ·
      obtain rfl : l13 = false := (AnyOrder.mem_ready hi).2.1
      obtain rfl : l4 = true := AnyOrder.dep (q := 0) hi rfl rfl rfl
      obtain rfl : l12 = true := AnyOrder.dep (q := 1) hi rfl rfl rfl
      clear hi
      simp only [sel_true, selv_true] at hK ⊢
      refine AnyOrder.wpOp_go rfl (by rfl) ?_
      go_wp2_with fail
      exact ⟨l0, l1, l2, l3, true, l5, l6, l7, l8, l9, l10, l11, true, true, l14, l15, rfl, rfl, HF⟩
     ·
      obtain rfl : l14 = false := (AnyOrder.mem_ready hi).2.1
      obtain rfl : l0 = true := AnyOrder.dep (q := 0) hi rfl rfl rfl
      obtain rfl : l11 = true := AnyOrder.dep (q := 1) hi rfl rfl rfl
      clear hi
      simp only [sel_true, selv_true] at hK ⊢
      refine AnyOrder.wpOp_go rfl (by rfl) ?_
      go_wp2_with fail
      exact ⟨true, l1, l2, l3, l4, l5, l6, l7, l8, l9, l10, true, l12, l13, true, l15, rfl, rfl, HF⟩
     ·
      obtain rfl : l15 = false := (AnyOrder.mem_ready hi).2.1
      obtain rfl : l13 = true := AnyOrder.dep (q := 0) hi rfl rfl rfl
      obtain rfl : l14 = true := AnyOrder.dep (q := 1) hi rfl rfl rfl
      obtain rfl : l0 = true := AnyOrder.dep (q := 2) hi rfl rfl rfl
      obtain rfl : l1 = true := AnyOrder.dep (q := 3) hi rfl rfl rfl
      obtain rfl : l2 = true := AnyOrder.dep (q := 4) hi rfl rfl rfl
      obtain rfl : l3 = true := AnyOrder.dep (q := 5) hi rfl rfl rfl
      obtain rfl : l4 = true := AnyOrder.dep (q := 6) hi rfl rfl rfl
      obtain rfl : l5 = true := AnyOrder.dep (q := 7) hi rfl rfl rfl
      obtain rfl : l6 = true := AnyOrder.dep (q := 8) hi rfl rfl rfl
      obtain rfl : l7 = true := AnyOrder.dep (q := 9) hi rfl rfl rfl
      obtain rfl : l8 = true := AnyOrder.dep (q := 10) hi rfl rfl rfl
      obtain rfl : l9 = true := AnyOrder.dep (q := 11) hi rfl rfl rfl
      obtain rfl : l10 = true := AnyOrder.dep (q := 12) hi rfl rfl rfl
      obtain rfl : l11 = true := AnyOrder.dep (q := 13) hi rfl rfl rfl
      obtain rfl : l12 = true := AnyOrder.dep (q := 14) hi rfl rfl rfl
      clear hi
      simp only [sel_true, selv_true] at hK ⊢
      refine AnyOrder.wpOp_go rfl (by rfl) ?_
      go_wp2_with fail
      exact ⟨true, true, true, true, true, true, true, true, true, true, true, true, true, true, true, true, rfl, rfl, HF⟩
    case last =>
     rintro L ac V ⟨l0, l1, l2, l3, l4, l5, l6, l7, l8, l9, l10, l11, l12, l13, l14, l15, rfl, rfl, HF⟩ hr
     have hall := AnyOrder.all_listed rfl (by kernel_rfl) hr
     clear hr
     obtain rfl : l0 = true := hall 0 (by decide)
     obtain rfl : l1 = true := hall 1 (by decide)
     obtain rfl : l2 = true := hall 2 (by decide)
     obtain rfl : l3 = true := hall 3 (by decide)
     obtain rfl : l4 = true := hall 4 (by decide)
     obtain rfl : l5 = true := hall 5 (by decide)
     obtain rfl : l6 = true := hall 6 (by decide)
     obtain rfl : l7 = true := hall 7 (by decide)
     obtain rfl : l8 = true := hall 8 (by decide)
     obtain rfl : l9 = true := hall 9 (by decide)
     obtain rfl : l10 = true := hall 10 (by decide)
     obtain rfl : l11 = true := hall 11 (by decide)
     obtain rfl : l12 = true := hall 12 (by decide)
     obtain rfl : l13 = true := hall 13 (by decide)
     obtain rfl : l14 = true := hall 14 (by decide)
     obtain rfl : l15 = true := hall 15 (by decide)
     clear hall
     simp only [sel_true, selv_true]
     go_wp2
     refine bodyPost_ret (results_tmp2 rfl _ _ _) rfl ?_
     exact ⟨by rw [HR.out]; rfl, HF.out.below⟩
   ·
    obtain rfl : n = q := by omega
    have HR : Aside0 (hf = false) := ⟨by rw [← HHF.out, hasK, HQ.out, List.getElem?_eq_none (by rw [HE.out.kl]; exact Nat.le_refl _)]; rfl⟩
    go_wp2_with fail
    refine AnyOrder.wp_region (by kernel_rfl) (bdfInv w A w.heap.size n c d u11 (.slice A n c) (.int .i64 n) (.int .i64 n) (.int .i64 n) (.int .i64 n) (.bool false) u18 u19 u20 u21 u22 u23 u24 u25 u26 u27 u28 u29 u30 u31 u32 u33 u34) ⟨false, false, false, false, false, false, false, false, false, false, false, false, false, false, false, false, rfl, rfl, ⟨HB.out.drew⟩⟩ ?step ?last
    case step =>
     rintro L ac V i ⟨l0, l1, l2, l3, l4, l5, l6, l7, l8, l9, l10, l11, l12, l13, l14, l15, rfl, rfl, HF⟩ hi K hK
     have h1 : i = 0 ∨ i = 1 ∨ i = 2 ∨ i = 3 ∨ i = 4 ∨ i = 5 ∨ i = 6 ∨ i = 7 ∨ i = 8 ∨ i = 9 ∨ i = 10 ∨ i = 11 ∨ i = 12 ∨ i = 13 ∨ i = 14 ∨ i = 15 := by
      have h1 := (AnyOrder.mem_ready hi).1
      clear hi hK
      change i < 16 at h1
      omega
     rcases h1 with rfl | rfl | rfl | rfl | rfl | rfl | rfl | rfl | rfl | rfl | rfl | rfl | rfl | rfl | rfl | rfl
     ·
      obtain rfl : l0 = false := (AnyOrder.mem_ready hi).2.1
      clear hi
      refine AnyOrder.wpOp_go rfl (by rfl) ?_
      go_wp2_with fail
      exact ⟨true, l1, l2, l3, l4, l5, l6, l7, l8, l9, l10, l11, l12, l13, l14, l15, rfl, rfl, HF⟩
     ·
      obtain rfl : l1 = false := (AnyOrder.mem_ready hi).2.1
      clear hi
      refine AnyOrder.wpOp_go rfl (by rfl) ?_
      go_wp2_with fail
      exact ⟨l0, true, l2, l3, l4, l5, l6, l7, l8, l9, l10, l11, l12, l13, l14, l15, rfl, rfl, HF⟩
     ·
      obtain rfl : l2 = false := (AnyOrder.mem_ready hi).2.1
      clear hi
      refine AnyOrder.wpOp_go rfl (by rfl) ?_
      go_wp2_with fail
      exact ⟨l0, l1, true, l3, l4, l5, l6, l7, l8, l9, l10, l11, l12, l13, l14, l15, rfl, rfl, HF⟩
     ·
      obtain rfl : l3 = false := (AnyOrder.mem_ready hi).2.1
      obtain rfl : l1 = true := AnyOrder.dep (q := 0) hi rfl rfl rfl
      obtain rfl : l2 = true := AnyOrder.dep (q := 1) hi rfl rfl rfl
      clear hi
      simp only [sel_true, selv_true] at hK ⊢
      have hh : decide ((n : Int) < (n : Int)) = false := decide_eq_false (by omega)
      refine AnyOrder.wpOp_go rfl (by rfl) ?_
      go_wp2_with fail
      exact ⟨l0, true, true, true, l4, l5, l6, l7, l8, l9, l10, l11, l12, l13, l14, l15, rfl, rfl, HF⟩
     ·
      obtain rfl : l4 = false := (AnyOrder.mem_ready hi).2.1
      obtain rfl : l3 = true := AnyOrder.dep (q := 0) hi rfl rfl rfl
      clear hi
      simp only [sel_true, selv_true] at hK ⊢
      refine AnyOrder.wpOp_go rfl (by rfl) ?_
      go_wp2_with fail
      exact ⟨l0, l1, l2, true, true, l5, l6, l7, l8, l9, l10, l11, l12, l13, l14, l15, rfl, rfl, HF⟩
     ·
      obtain rfl : l5 = false := (AnyOrder.mem_ready hi).2.1
      obtain rfl : l4 = true := AnyOrder.dep (q := 0) hi rfl rfl rfl
      clear hi
      simp only [sel_true, selv_true] at hK ⊢
      refine AnyOrder.wpOp_out rfl (by rfl) ?_
      exact hK _ _ ⟨l0, l1, l2, l3, true, true, l6, l7, l8, l9, l10, l11, l12, l13, l14, l15, rfl, rfl, HF⟩
     ·
      obtain rfl : l6 = false := (AnyOrder.mem_ready hi).2.1
      obtain rfl : l4 = true := AnyOrder.dep (q := 0) hi rfl rfl rfl
      clear hi
      simp only [sel_true, selv_true] at hK ⊢
      refine AnyOrder.wpOp_out rfl (by rfl) ?_
      exact hK _ _ ⟨l0, l1, l2, l3, true, l5, true, l7, l8, l9, l10, l11, l12, l13, l14, l15, rfl, rfl, HF⟩
     ·
      obtain rfl : l7 = false := (AnyOrder.mem_ready hi).2.1
      obtain rfl : l4 = true := AnyOrder.dep (q := 0) hi rfl rfl rfl
      clear hi
      simp only [sel_true, selv_true] at hK ⊢
      refine AnyOrder.wpOp_out rfl (by rfl) ?_
      exact hK _ _ ⟨l0, l1, l2, l3, true, l5, l6, true, l8, l9, l10, l11, l12, l13, l14, l15, rfl, rfl, HF⟩
     ·
      obtain rfl : l8 = false := (AnyOrder.mem_ready hi).2.1
      obtain rfl : l4 = true := AnyOrder.dep (q := 2) hi rfl rfl rfl
      clear hi
      simp only [sel_true, selv_true] at hK ⊢
      refine AnyOrder.wpOp_out rfl (by rfl) ?_
      exact hK _ _ ⟨l0, l1, l2, l3, true, l5, l6, l7, true, l9, l10, l11, l12, l13, l14, l15, rfl, rfl, HF⟩
     ·
      obtain rfl : l9 = false := (AnyOrder.mem_ready hi).2.1
      obtain rfl : l4 = true := AnyOrder.dep (q := 1) hi rfl rfl rfl
      clear hi
      simp only [sel_true, selv_true] at hK ⊢
      refine AnyOrder.wpOp_out rfl (by rfl) ?_
      exact hK _ _ ⟨l0, l1, l2, l3, true, l5, l6, l7, l8, true, l10, l11, l12, l13, l14, l15, rfl, rfl, HF⟩
     ·
      obtain rfl : l10 = false := (AnyOrder.mem_ready hi).2.1
      obtain rfl : l4 = true := AnyOrder.dep (q := 0) hi rfl rfl rfl
      clear hi
      simp only [sel_true, selv_true] at hK ⊢
      refine AnyOrder.wpOp_out rfl (by rfl) ?_
      exact hK _ _ ⟨l0, l1, l2, l3, true, l5, l6, l7, l8, l9, true, l11, l12, l13, l14, l15, rfl, rfl, HF⟩
     ·
      obtain rfl : l11 = false := (AnyOrder.mem_ready hi).2.1
      obtain rfl : l4 = true := AnyOrder.dep (q := 3) hi rfl rfl rfl
      clear hi
      simp only [sel_true, selv_true] at hK ⊢
      refine AnyOrder.wpOp_out rfl (by rfl) ?_
      exact hK _ _ ⟨l0, l1, l2, l3, true, l5, l6, l7, l8, l9, l10, true, l12, l13, l14, l15, rfl, rfl, HF⟩
     ·
      obtain rfl : l12 = false := (AnyOrder.mem_ready hi).2.1
      obtain rfl : l4 = true := AnyOrder.dep (q := 1) hi rfl rfl rfl
      clear hi
      simp only [sel_true, selv_true] at hK ⊢
      refine AnyOrder.wpOp_out rfl (by rfl) ?_
      exact hK _ _ ⟨l0, l1, l2, l3, true, l5, l6, l7, l8, l9, l10, l11, true, l13, l14, l15, rfl, rfl, HF⟩
     ·
      obtain rfl : l13 = false := (AnyOrder.mem_ready hi).2.1
      obtain rfl : l4 = true := AnyOrder.dep (q := 0) hi rfl rfl rfl
      obtain rfl : l12 = true := AnyOrder.dep (q := 1) hi rfl rfl rfl
      clear hi
      simp only [sel_true, selv_true] at hK ⊢
      refine AnyOrder.wpOp_go rfl (by rfl) ?_
      go_wp2_with fail
      exact ⟨l0, l1, l2, l3, true, l5, l6, l7, l8, l9, l10, l11, true, true, l14, l15, rfl, rfl, HF⟩
     ·
      obtain rfl : l14 = false := (AnyOrder.mem_ready hi).2.1
      obtain rfl : l0 = true := AnyOrder.dep (q := 0) hi rfl rfl rfl
      obtain rfl : l11 = true := AnyOrder.dep (q := 1) hi rfl rfl rfl
      clear hi
      simp only [sel_true, selv_true] at hK ⊢
      refine AnyOrder.wpOp_go rfl (by rfl) ?_
      go_wp2_with fail
      exact ⟨true, l1, l2, l3, l4, l5, l6, l7, l8, l9, l10, true, l12, l13, true, l15, rfl, rfl, HF⟩
     ·
      obtain rfl : l15 = false := (AnyOrder.mem_ready hi).2.1
      obtain rfl : l13 = true := AnyOrder.dep (q := 0) hi rfl rfl rfl
      obtain rfl : l14 = true := AnyOrder.dep (q := 1) hi rfl rfl rfl
      obtain rfl : l0 = true := AnyOrder.dep (q := 2) hi rfl rfl rfl
      obtain rfl : l1 = true := AnyOrder.dep (q := 3) hi rfl rfl rfl
      obtain rfl : l2 = true := AnyOrder.dep (q := 4) hi rfl rfl rfl
      obtain rfl : l3 = true := AnyOrder.dep (q := 5) hi rfl rfl rfl
      obtain rfl : l4 = true := AnyOrder.dep (q := 6) hi rfl rfl rfl
      obtain rfl : l5 = true := AnyOrder.dep (q := 7) hi rfl rfl rfl
      obtain rfl : l6 = true := AnyOrder.dep (q := 8) hi rfl rfl rfl
      obtain rfl : l7 = true := AnyOrder.dep (q := 9) hi rfl rfl rfl
      obtain rfl : l8 = true := AnyOrder.dep (q := 10) hi rfl rfl rfl
      obtain rfl : l9 = true := AnyOrder.dep (q := 11) hi rfl rfl rfl
      obtain rfl : l10 = true := AnyOrder.dep (q := 12) hi rfl rfl rfl
      obtain rfl : l11 = true := AnyOrder.dep (q := 13) hi rfl rfl rfl
      obtain rfl : l12 = true := AnyOrder.dep (q := 14) hi rfl rfl rfl
      clear hi
      simp only [sel_true, selv_true] at hK ⊢
      refine AnyOrder.wpOp_go rfl (by rfl) ?_
      go_wp2_with fail
      exact ⟨true, true, true, true, true, true, true, true, true, true, true, true, true, true, true, true, rfl, rfl, HF⟩
    case last =>
     rintro L ac V ⟨l0, l1, l2, l3, l4, l5, l6, l7, l8, l9, l10, l11, l12, l13, l14, l15, rfl, rfl, HF⟩ hr
     have hall := AnyOrder.all_listed rfl (by kernel_rfl) hr
     clear hr
     obtain rfl : l0 = true := hall 0 (by decide)
     obtain rfl : l1 = true := hall 1 (by decide)
     obtain rfl : l2 = true := hall 2 (by decide)
     obtain rfl : l3 = true := hall 3 (by decide)
     obtain rfl : l4 = true := hall 4 (by decide)
     obtain rfl : l5 = true := hall 5 (by decide)
     obtain rfl : l6 = true := hall 6 (by decide)
     obtain rfl : l7 = true := hall 7 (by decide)
     obtain rfl : l8 = true := hall 8 (by decide)
     obtain rfl : l9 = true := hall 9 (by decide)
     obtain rfl : l10 = true := hall 10 (by decide)
     obtain rfl : l11 = true := hall 11 (by decide)
     obtain rfl : l12 = true := hall 12 (by decide)
     obtain rfl : l13 = true := hall 13 (by decide)
     obtain rfl : l14 = true := hall 14 (by decide)
     obtain rfl : l15 = true := hall 15 (by decide)
     clear hall
     simp only [sel_true, selv_true]
     go_wp2
     refine bodyPost_ret (results_tmp2 rfl _ _ _) rfl ?_
     exact ⟨by rw [HR.out]; rfl, HF.out.below⟩
theorem adjacent_inc : ∀ {ys : List Dot}, ys.Nodup → ys.Pairwise (fun a b => dotLt b a = false) → incB ys = true
 | [], _, _ => rfl
 | [_], _, _ => rfl
 | a :: b :: r, hn, hp => by
  obtain ⟨h1, h2⟩ := List.nodup_cons.1 hn
  obtain ⟨p1, p2⟩ := List.pairwise_cons.1 hp
  have hlt : dotLt a b = true := by
   cases h : dotLt a b with
   | true => rfl
   | false => exact absurd (by rw [dotLt_total h (p1 b List.mem_cons_self)]; exact List.mem_cons_self) h1
  simp only [incB, Bool.and_eq_true]
  exact ⟨hlt, adjacent_inc h2 p2⟩
theorem incB_ne {ys : List Dot} (h : incB ys = true) {k : Nat} {x y : Dot} (hx : ys[k]? = some x) (hy : ys[k + 1]? = some y) : x ≠ y := by
 intro e
 subst e
 have hn := incB_nodup h
 have h1 := (List.getElem?_eq_some_iff.1 hx).1
 have h2 := (List.getElem?_eq_some_iff.1 hy).1
 have := (List.getElem_inj (h₀ := h1) (h₁ := h2) hn).1 ((List.getElem?_eq_some_iff.1 hx).2.trans (List.getElem?_eq_some_iff.1 hy).2.symm)
 omega
def cpdInv (W0 : World) (ad : Addr) (n c0 k : Nat) (x y : Dot) (z1 z2 z4 z5 z6 z7 z8 z9 z10 z11 z12 z13 z14 z15 z16 z17 z18 z19 z20 z21 z22 z23 z24 z25 z26 z27 z28 z29 z30 z31 z32 z33 z34 z35 z36 z37 z38 z39 z40 z41 z42 z43 z44 z45 z46 z47 z48 z49 z50 z51 z52 z53 z54 z55 z56 z57 z58 z59 z60 : Value) (L : Array Bool) (ac : Act) (V : World) : Prop := ∃ (l0 l1 l2 l3 l4 l5 l6 l7 l8 l9 : Bool), L = #[l0, l1, l2, l3, l4, l5, l6, l7, l8, l9] ∧ ac = { tmps := #[.slice (some ad) n c0, z1, z2, .int .i64 ((k : Int) + 1), z4, z5, z6, z7, z8, z9, z10, z11, z12, z13, z14, z15, selv l0 (.slice (some ad) n c0) (z16), selv l1 (.int .i64 ((k : Int) + 1)) (z17), selv l2 (.pointer (some (ad.add ((k + 1) * 2)))) (z18), selv l3 (vDot y) (z19), selv l4 (.slice (some ad) n c0) (z20), selv l5 (.int .i64 ((k : Int) + 1)) (z21), selv l6 (.int .i64 (k : Int)) (z22), selv l7 (.pointer (some (ad.add (k * 2)))) (z23), selv l8 (vDot x) (z24), selv l9 (.bool false) (z25), z26, z27, z28, z29, z30, z31, z32, z33, z34, z35, z36, z37, z38, z39, z40, z41, z42, z43, z44, z45, z46, z47, z48, z49, z50, z51, z52, z53, z54, z55, z56, z57, z58, z59, z60], defers := [] } ∧ Aside0 (V = W0)
set_option maxHeartbeats 1000000 in
set_option maxRecDepth 100000 in
theorem compactD_call (A0 : Option Addr) (n c0 : Nat) (ds : List Dot) (w : World) (hn : ds.length = n) (hr0 : Kd.C k33 w A0 n ds) (hl : n ≤ 1000000) (hi : incB ds = true) :
  Calls Tryz.prog 43 #[.slice A0 n c0] w fun e w' => e = .returned (.slice A0 n c0) ∧ Below w.heap.size w w' := by
 have HR := Aside0.mk hr0
 have Hn := Aside0.mk hn
 have HI := Aside0.mk hi
 have HB0 : Aside0 (Below w.heap.size w w) := ⟨Below.refl _ _⟩
 clear hr0 hn hi
 go_enter Tryz.func43, Tryz.ntmps43
 by_cases h2 : n < 2
 ·
  have h2b : decide ((n : Int) < 2) = true := decide_eq_true (by omega)
  go_wp2
  go_ret
  exact ⟨rfl, Below.refl _ _⟩
 ·
  have h2b : decide ((n : Int) < 2) = false := decide_eq_false (by omega)
  go_wp2
  go_loopw [3] (fun i wr => ∃ k : Nat, k + 1 ≤ n ∧ i = .int .i64 ((k : Int) + 1) ∧ Aside0 (Below w.heap.size w wr)) (fun i _ => n - (intOf i).toNat)
  case atStart => exact ⟨0, by omega, rfl, HB0⟩
  case round =>
   obtain ⟨k, hk, rfl, HB⟩ := hrel
   by_cases hlt : k + 1 < n
   ·
    have hltb : decide ((k : Int) + 1 < (n : Int)) = true := decide_eq_true (by omega)
    obtain ⟨x, hx⟩ : ∃ x, Aside0 (ds[k]? = some x) := ⟨_, ⟨List.getElem?_eq_getElem (by have := Hn.out; omega)⟩⟩
    obtain ⟨y, hy⟩ : ∃ y, Aside0 (ds[k + 1]? = some y) := ⟨_, ⟨List.getElem?_eq_getElem (by have := Hn.out; omega)⟩⟩
    obtain ⟨ad, e, g0, g1⟩ := dot_at HR.out HB.out k x hx.out
    subst e
    obtain ⟨ad', e, y0, y1⟩ := dot_at HR.out HB.out (k + 1) y hy.out
    cases e
    have G0 : Aside0 (wr.drew.cell? (ad.add (k * 2)) = some (.int .i64 x.f0)) := ⟨g0⟩
    have G1 : Aside0 (wr.drew.cell? ⟨(ad.add (k * 2)).block, (ad.add (k * 2)).off + 1, none⟩ = some (.int .i64 x.f1)) := ⟨g1⟩
    have Y0 : Aside0 (wr.drew.cell? (ad.add ((k + 1) * 2)) = some (.int .i64 y.f0)) := ⟨y0⟩
    have Y1 : Aside0 (wr.drew.cell? ⟨(ad.add ((k + 1) * 2)).block, (ad.add ((k + 1) * 2)).off + 1, none⟩ = some (.int .i64 y.f1)) := ⟨y1⟩
    have HNE : Aside0 (¬ y = x) := ⟨fun e => incB_ne HI.out hx.out hy.out e.symm⟩
    have hgd : Aside0 (Below w.heap.size w wr.drew) := ⟨below_drew1 HB.out⟩
    have HLT : Aside0 (k + 1 < n ∧ n ≤ 1000000) := ⟨⟨hlt, hl⟩⟩
    clear g0 g1 y0 y1
    go_wp2
    clear hltb hlt hk h2b h2
    refine AnyOrder.wp_region (by kernel_rfl) (cpdInv wr.drew ad n c0 k x y _ _ _ _ _ _ _ _ _ _ _ _ _ _ _ _ _ _ _ _ _ _ _ _ _ _ _ _ _ _ _ _ _ _ _ _ _ _ _ _ _ _ _ _ _ _ _ _ _ _ _ _ _ _ _ _ _ _ _) ⟨false, false, false, false, false, false, false, false, false, false, rfl, rfl, ⟨rfl⟩⟩ ?step ?last
    case step =>
     rintro L ac V i ⟨l0, l1, l2, l3, l4, l5, l6, l7, l8, l9, rfl, rfl, HF⟩ hi K hK
     have h1 : i = 0 ∨ i = 1 ∨ i = 2 ∨ i = 3 ∨ i = 4 ∨ i = 5 ∨ i = 6 ∨ i = 7 ∨ i = 8 ∨ i = 9 := by
      have h1 := (AnyOrder.mem_ready hi).1
      clear hi hK
      change i < 10 at h1
      omega
     rcases h1 with rfl | rfl | rfl | rfl | rfl | rfl | rfl | rfl | rfl | rfl
     ·
      obtain rfl : l0 = false := (AnyOrder.mem_ready hi).2.1
      clear hi
      obtain rfl := HF.out
      refine AnyOrder.wpOp_go rfl (by rfl) ?_
      go_wp2_with fail
      exact ⟨true, l1, l2, l3, l4, l5, l6, l7, l8, l9, rfl, rfl, ⟨rfl⟩⟩
     ·
      obtain rfl : l1 = false := (AnyOrder.mem_ready hi).2.1
      clear hi
      obtain rfl := HF.out
      refine AnyOrder.wpOp_go rfl (by rfl) ?_
      go_wp2_with fail
      exact ⟨l0, true, l2, l3, l4, l5, l6, l7, l8, l9, rfl, rfl, ⟨rfl⟩⟩
     ·
      obtain rfl : l2 = false := (AnyOrder.mem_ready hi).2.1
      obtain rfl : l0 = true := AnyOrder.dep (q := 0) hi rfl rfl rfl
      obtain rfl : l1 = true := AnyOrder.dep (q := 1) hi rfl rfl rfl
      clear hi
      simp only [sel_true, selv_true] at hK ⊢
      obtain rfl := HF.out
      have hlt := HLT.out.1
      have hl := HLT.out.2
      have hk1 : ((k : Int) + 1).toNat = k + 1 := by omega
      refine AnyOrder.wpOp_go rfl (by rfl) ?_
      go_wp2_with fail
      exact ⟨true, true, true, l3, l4, l5, l6, l7, l8, l9, rfl, rfl, ⟨rfl⟩⟩
     ·
      obtain rfl : l3 = false := (AnyOrder.mem_ready hi).2.1
      obtain rfl : l2 = true := AnyOrder.dep (q := 0) hi rfl rfl rfl
      clear hi
      simp only [sel_true, selv_true] at hK ⊢
      obtain rfl := HF.out
      have g0 := Y0.out
      have g1 := Y1.out
      refine AnyOrder.wpOp_go rfl (by rfl) ?_
      go_wp2_with fail
      exact ⟨l0, l1, true, true, l4, l5, l6, l7, l8, l9, rfl, rfl, ⟨rfl⟩⟩
     ·
      obtain rfl : l4 = false := (AnyOrder.mem_ready hi).2.1
      clear hi
      obtain rfl := HF.out
      refine AnyOrder.wpOp_go rfl (by rfl) ?_
      go_wp2_with fail
      exact ⟨l0, l1, l2, l3, true, l5, l6, l7, l8, l9, rfl, rfl, ⟨rfl⟩⟩
     ·
      obtain rfl : l5 = false := (AnyOrder.mem_ready hi).2.1
      clear hi
      obtain rfl := HF.out
      refine AnyOrder.wpOp_go rfl (by rfl) ?_
      go_wp2_with fail
      exact ⟨l0, l1, l2, l3, l4, true, l6, l7, l8, l9, rfl, rfl, ⟨rfl⟩⟩
     ·
      obtain rfl : l6 = false := (AnyOrder.mem_ready hi).2.1
      obtain rfl : l5 = true := AnyOrder.dep (q := 0) hi rfl rfl rfl
      clear hi
      simp only [sel_true, selv_true] at hK ⊢
      obtain rfl := HF.out
      have hl := HLT.out
      have hw : wrap64 ((k : Int) + 1 - 1) = (k : Int) := by unfold wrap64; omega
      refine AnyOrder.wpOp_go rfl (by rfl) ?_
      go_wp2_with fail
      exact ⟨l0, l1, l2, l3, l4, true, true, l7, l8, l9, rfl, rfl, ⟨rfl⟩⟩
     ·
      obtain rfl : l7 = false := (AnyOrder.mem_ready hi).2.1
      obtain rfl : l4 = true := AnyOrder.dep (q := 0) hi rfl rfl rfl
      obtain rfl : l6 = true := AnyOrder.dep (q := 1) hi rfl rfl rfl
      clear hi
      simp only [sel_true, selv_true] at hK ⊢
      obtain rfl := HF.out
      have hlt := HLT.out.1
      have hl := HLT.out.2
      have hk1 : ((k : Int) + 1).toNat = k + 1 := by omega
      refine AnyOrder.wpOp_go rfl (by rfl) ?_
      go_wp2_with fail
      exact ⟨l0, l1, l2, l3, true, l5, true, true, l8, l9, rfl, rfl, ⟨rfl⟩⟩
     ·
      obtain rfl : l8 = false := (AnyOrder.mem_ready hi).2.1
      obtain rfl : l7 = true := AnyOrder.dep (q := 0) hi rfl rfl rfl
      clear hi
      simp only [sel_true, selv_true] at hK ⊢
      obtain rfl := HF.out
      have g0 := G0.out
      have g1 := G1.out
      refine AnyOrder.wpOp_go rfl (by rfl) ?_
      go_wp2_with fail
      exact ⟨l0, l1, l2, l3, l4, l5, l6, true, true, l9, rfl, rfl, ⟨rfl⟩⟩
     ·
      obtain rfl : l9 = false := (AnyOrder.mem_ready hi).2.1
      obtain rfl : l3 = true := AnyOrder.dep (q := 0) hi rfl rfl rfl
      obtain rfl : l8 = true := AnyOrder.dep (q := 1) hi rfl rfl rfl
      clear hi
      simp only [sel_true, selv_true] at hK ⊢
      obtain rfl := HF.out
      by_cases h0 : y.f0 = x.f0
      ·
       have h1 : ¬ y.f1 = x.f1 := fun h1 => HNE.out (Dot.ext_iff'.2 ⟨h0, h1⟩)
       refine AnyOrder.wpOp_go rfl (by rfl) ?_
       go_wp2_with fail
       exact ⟨l0, l1, l2, true, l4, l5, l6, l7, true, true, rfl, rfl, ⟨rfl⟩⟩
      refine AnyOrder.wpOp_go rfl (by rfl) ?_
      go_wp2_with fail
      exact ⟨l0, l1, l2, true, l4, l5, l6, l7, true, true, rfl, rfl, ⟨rfl⟩⟩
    case last =>
     rintro L ac V ⟨l0, l1, l2, l3, l4, l5, l6, l7, l8, l9, rfl, rfl, HF⟩ hr
     have hall := AnyOrder.all_listed rfl (by kernel_rfl) hr
     clear hr
     obtain rfl : l0 = true := hall 0 (by decide)
     obtain rfl : l1 = true := hall 1 (by decide)
     obtain rfl : l2 = true := hall 2 (by decide)
     obtain rfl : l3 = true := hall 3 (by decide)
     obtain rfl : l4 = true := hall 4 (by decide)
     obtain rfl : l5 = true := hall 5 (by decide)
     obtain rfl : l6 = true := hall 6 (by decide)
     obtain rfl : l7 = true := hall 7 (by decide)
     obtain rfl : l8 = true := hall 8 (by decide)
     obtain rfl : l9 = true := hall 9 (by decide)
     clear hall
     simp only [sel_true, selv_true]
     obtain rfl := HF.out
     have hlt2 := HLT.out
     go_wp2
     go_roundw
     case rel => exact ⟨k + 1, by omega, by go_num, hgd⟩
     case measure => simp [intOf] <;> omega
   ·
    obtain rfl : n = k + 1 := by omega
    have hltb : decide ((k : Int) + 1 < ((k + 1 : Nat) : Int)) = false := decide_eq_false (by omega)
    go_wp2
    go_ret
    exact ⟨rfl, HB.out⟩
end Go.Proofs.YtdheokololpnbaaGreatDoor.PWalk
end
section
namespace Go.Proofs.YtdheokololpnbaaGreatDoor.PWalk
open Go.RowKit Go.Proofs.YtdheokololpnbaaGreatDoorW.PrintWords Go.Proofs.YtdheokololpnbaaGreatDoorW.PrintLast Go.Proofs.YtdheokololpnbaaGreatDoorW.PrintMore
set_option linter.unusedVariables false
set_option linter.unusedSimpArgs false
open Go.Shelf
attribute [local go_sem] Oper.semAt_some
def ofCmp (a b : Node) : Int := dotCmp a.f0 b.f0
set_option maxRecDepth 100000 in
theorem of1_call (a b : Node) (w : World) : Calls Tryz.prog 54 #[vNode a, vNode b] w fun e w' => e = .returned (.int .i64 (ofCmp a b)) ∧ Gr w w' := by
 have hA : ((w.alloc (boxN a)).alloc (boxN b)).heap[w.heap.size]? = some (boxN a) := blk_alloc (blk_new _ _) _
 have hB : ((w.alloc (boxN a)).alloc (boxN b)).heap[w.heap.size + 1]? = some (boxN b) := by have := blk_new (w.alloc (boxN a)) (boxN b); rwa [World.size_alloc] at this
 have HG := Aside0.mk ((Gr.alloc w (boxN a)).trans (Gr.alloc _ (boxN b)))
 obtain ⟨r, HR⟩ : ∃ r, Aside0 (ofCmp a b = r) := ⟨_, ⟨rfl⟩⟩
 rw [HR.out]
 obtain ⟨hA0, hA1, _⟩ := box_cells hA
 obtain ⟨hB0, hB1, _⟩ := box_cells hB
 clear hA hB
 go_enter Tryz.func54, Tryz.ntmps54
 go_wp2_with fail
 refine (dotCmp_call a.f0 b.f0 _).mono ?_
 rintro e W1 ⟨rfl, hb⟩
 have HG := Aside0.mk (HG.out.trans hb)
 clear hb hA0 hA1 hB0 hB1
 go_wp2_with fail
 go_ret
 exact ⟨by rw [← HR.out]; rfl, HG.out⟩
theorem ofCmp_lt (a b : Node) : decide (ofCmp a b < 0) = dotLt a.f0 b.f0 := dotCmp_lt a.f0 b.f0
theorem swoOf : Go.Sort.SWO (ltOf ofCmp) := by
 have e : ltOf ofCmp = fun a b => dotLt a.f0 b.f0 := by funext x y; exact ofCmp_lt x y
 rw [e]
 exact ⟨fun a => dotLt_irrefl _, fun _ _ _ h k => dotLt_trans h k, fun a b c h k => by
  unfold dotLt at *
  simp only [decide_eq_false_iff_not] at *
  omega⟩
set_option maxRecDepth 100000 in
theorem sortNd_call (base : Nat) (u : Value) (xs : List Node) (w : World) (h : RN w base u xs) (hl : xs.length ≤ 1000001) :
  Calls Tryz.prog 53 #[u, .func (.func 54) #[] #[]] w fun e w' => e = .returned (.tuple #[]) ∧ ∃ ys, RN w' base u ys ∧ ys.Perm xs ∧ ys.Pairwise (fun a b => dotLt b.f0 a.f0 = false) ∧ Tch (fun i => u.ownBlock = some i) w w' := by
 obtain ⟨hcl, ho⟩ := cells_of_R h
 rcases ho with ⟨h0, h1⟩ | ⟨g, cap, cur, he, hbg, hcur, hle, hmx, hsz, htk⟩
 ·
  subst h0
  have hx : xs = [] := List.length_eq_zero_iff.1 h1
  subst hx
  refine (Go.Proofs.AnyF.slices_SortFunc_none Tryz.sortNode none 0 (.func (.func 54) #[] #[]) w).mono ?_
  rintro e w' ⟨rfl, rfl⟩
  exact ⟨rfl, [], h, List.Perm.refl _, List.Pairwise.nil, ⟨rfl, rfl, rfl, Nat.le_refl _, fun _ _ _ => rfl⟩⟩
 subst he
 obtain ⟨n, hn⟩ : ∃ n, xs.length = n := ⟨_, rfl⟩
 rw [hn] at hle htk h hcl ⊢
 have hds : xs.toArray.size = n := by rw [List.size_toArray]; exact hn
 have hH := row_holds nodeCells 6 (fun _ => rfl) (by decide) (d := xs.toArray) hcur hds htk
 have hcon := Go.Proofs.AnyQ.slices_SortFunc Tryz.sortNode 6 Tryz.isAgg35 Tryz.sizeOf35 nodeCells (fun _ => rfl) (fun x v hv => one_cells [x] v (by simpa [cellsOf] using hv)) ofCmp swoOf 54 #[] g 0 cap xs.toArray w (enters_of Tryz.func54 (by kernel_rfl) rfl) (fun m os dk hs x y => of1_call x y _) hH (blk_lt hcur) (by rw [hds]; omega)
 rw [hds] at hcon
 refine hcon.mono ?_
 rintro e w' ⟨rfl, d', m, os, hp, hs, rfl⟩
 have hd' : d'.size = n := hp.1.trans hds
 obtain ⟨⟨cur', h1, h2, h3⟩, ht⟩ := row_sorted nodeCells 6 (fun _ => rfl) (by decide) (d' := d') hcur hsz hd' hle m os
 have hperm : d'.toList.Perm xs := by
  have := hp.2.2
  rw [hd'.symm, Array.extract_size, hd', ← hds, Array.extract_size] at this
  exact this
 have hlen : d'.toList.length = n := by rw [Array.length_toList]; exact hd'
 refine ⟨rfl, d'.toList, R_of_cells ⟨by rw [cellsOf_length], .inr ⟨g, cap, cur', by rw [hlen], hbg, h1, by rw [hlen]; exact hle, hmx, h2, by rw [hlen, h3]; rfl⟩⟩ (fun _ _ => trivial), hperm, ?_, ht⟩
 refine List.pairwise_iff_getElem.2 fun i j hi hj hij => ?_
 have := hs i j (Nat.zero_le _) hij (by rw [Array.length_toList, hd'] at hj; omega)
 rw [Array.length_toList] at hi hj
 rw [getElem!_pos d' j hj, getElem!_pos d' i hi] at this
 rw [← ofCmp_lt]
 simpa [ltOf] using this
/-- One list alone is increasing, of those that have the same nodes. -/
theorem inc_perm : ∀ {a b : List Node}, a.Perm b → a.Pairwise (fun x y => dotLt y.f0 x.f0 = false) → Inc b → a = b
 | [], b, hp, _, _ => by rw [List.nil_perm.1 hp]
 | x :: a, [], hp, _, _ => absurd (List.perm_nil.1 hp) (by simp)
 | x :: a, y :: b, hp, ha, hb => by
  obtain ⟨ha1, ha2⟩ := List.pairwise_cons.1 ha
  obtain ⟨hb1, hb2⟩ := List.pairwise_cons.1 hb
  have hxy : x = y := by
   refine Classical.byContradiction fun hne => ?_
   have hx : x ∈ b := (List.mem_cons.1 (hp.mem_iff.1 List.mem_cons_self)).resolve_left hne
   have hy : y ∈ a := (List.mem_cons.1 (hp.mem_iff.2 List.mem_cons_self)).resolve_left (fun e => hne e.symm)
   have h1 := hb1 x hx
   rw [ha1 y hy] at h1
   cases h1
  subst hxy
  rw [inc_perm (List.Perm.cons_inv hp) ha2 hb2]
end Go.Proofs.YtdheokololpnbaaGreatDoor.PWalk
end
