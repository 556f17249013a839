/-
  A store with a further node, the child of a reached one or of the root at a time greater than all others: it follows directly on its parent, and nothing else changes in the order; for every list of nodes, number and dot. Part 9 of 11.
-/
import Derived.Test.YtjlpaagnajmogaaGreatRH
import Derived.Laws.ResultCell
import Derived.Laws.Rows
import Derived.StillTailTactics
import Derived.Maps.OwnOps
import Derived.IntWalk
import Derived.RangeFuncNested
import Derived.RangeFuncBound
import Derived.RangeFuncCalls
import Derived.RangeFuncLeaves
import Derived.Shelf.Abstract
import Derived.Shelf.RegionOpen
import Derived.OwnWalkIn
import Derived.TacticsInMore
import Derived.LoopNIn
import Derived.LoopIn
import Derived.RangeFuncBox
import Derived.Maps.AppendAt
import Derived.Lib.BufferMore
import Derived.Laws.CopyRow
import Derived.LoopTactic
import Derived.Outline
import Derived.Lib.AppendZeros
import Derived.Maps.RangeRun
import Derived.Maps.RangeWalk
import Derived.Shelf.SlSortCmp.NoneTotal
import Derived.Deep.Cut
import Derived.WalkKit
import Derived.WalkLawsBesides
section
namespace Go.Proofs.YtjlpaagnajmogaaGreat.PWalk
open Go.RowKit Go.Proofs.YtjlpaagnajmogaaGreatW.PrintWords Go.Proofs.YtjlpaagnajmogaaGreatW.PrintLast Go.Proofs.YtjlpaagnajmogaaGreatW.PrintMore
set_option linter.unusedVariables false
set_option linter.unusedSimpArgs false
section
open Go.Shelf
attribute [local go_sem] Oper.semAt_some
def runeInB (r : Int) : Bool := decide (-9223372036854775808 ≤ r ∧ r ≤ 9223372036854775807)
def redpencilref10_Valid.f (k : Nat) (l0 : List Node) : Option Bool := if l0.length ≤ 1000000 ∧ (l0.all fun x => runeInB x.f3) = true then some (storeOk l0) else none
theorem rv_less (a b : Dot) : redpencilref04_Less.f a.f0 a.f1 b.f0 b.f1 = some (dotLt a b) := by
 unfold redpencilref04_Less.f dotLt
 by_cases h : a.f1 = b.f1
 ·
  rw [if_pos h]; simp [h]
 ·
  rw [if_neg h]; simp [h]
theorem rv_dot (a b : Int) : redpencilref04_Valid.f a b = some (dotOk ⟨a, b⟩) := by
 unfold redpencilref04_Valid.f dotOk
 by_cases h0 : a > 0 <;> by_cases h1 : a ≤ 64 <;> by_cases h2 : b > 0 <;> by_cases h3 : b ≤ 4294967295 <;> simp [h0, h1, h2, h3] <;> (try omega)
theorem rv_root (a b : Int) : redpencilref04_Root.f a b = some (dotRoot ⟨a, b⟩) := by
 unfold redpencilref04_Root.f dotRoot
 by_cases h0 : a = 0 <;> by_cases h1 : b = 0 <;> simp [h0, h1]
theorem rv_rune (r : Int) (h : runeInB r = true) : redpencilref02_Valid.f r = some (runeOk r) := by
 unfold redpencilref02_Valid.f redpencilref02_scalar.f runeOk
 have hw : wrap64 r = r := by unfold wrap64; unfold runeInB at h; rw [decide_eq_true_eq] at h; omega
 rw [hw]
 by_cases h0 : r = 0
 ·
  simp [h0]
 ·
  by_cases h1 : r ≥ 0 <;> by_cases h2 : r ≤ 1114111 <;> by_cases h3 : r < 55296 <;> by_cases h4 : r > 57343 <;> simp [h0, h1, h2, h3, h4] <;> omega
theorem rv_node (x : Node) (h : runeInB x.f3 = true) : redpencilref09_Valid.f x.f0.f0 x.f0.f1 x.f1.f0 x.f1.f1 x.f2 x.f3 = some (nodeOk x) := by
 unfold redpencilref09_Valid.f nodeOk
 simp only [rv_dot, rv_root, rv_rune _ h, Option.bind_some]
 have e : ((x.f0.f0 == x.f1.f0 && (x.f0.f1 == x.f1.f1)) = true) ↔ ¬ x.f1 ≠ x.f0 := by
  rw [Ne, Dot.ext_iff']; simp; omega
 simp only [e]
 by_cases h1 : dotOk x.f0 = true
 ·
  by_cases h4 : x.f1 ≠ x.f0
  ·
   by_cases h5 : x.f2 > 0
   ·
    have h5' : 1 ≤ x.f2 := by omega
    by_cases h6 : x.f2 ≤ 4611686018427387904
    ·
     cases h2 : dotRoot x.f1 <;> cases h3 : dotOk x.f1 <;> cases h8 : runeOk x.f3 <;> by_cases h7 : x.f3 = 0 <;> simp [h1, h2, h3, h4, h5, h5', h6, h7, h8]
    ·
     cases h2 : dotRoot x.f1 <;> cases h3 : dotOk x.f1 <;> simp [h1, h2, h3, h4, h5, h6]
   ·
    have h5' : ¬ 1 ≤ x.f2 := by omega
    cases h2 : dotRoot x.f1 <;> cases h3 : dotOk x.f1 <;> simp [h1, h2, h3, h4, h5, h5']
  ·
   cases h2 : dotRoot x.f1 <;> cases h3 : dotOk x.f1 <;> simp [h1, h2, h3, h4]
 ·
  simp [h1]
theorem incB_append (l : List Dot) (a b : Dot) : incB (l ++ [a, b]) = (incB (l ++ [a]) && dotLt a b) := by
 induction l with
 | nil => simp [incB]
 | cons c l ih =>
  cases l with
  | nil => simp [incB]
  | cons e l =>
   simp only [List.cons_append] at ih ⊢
   rw [incB, incB, ih, Bool.and_assoc]
theorem incB_left (l m : List Dot) (h : incB (l ++ m) = true) : incB l = true := by
 induction l with
 | nil => rfl
 | cons c l ih =>
  cases l with
  | nil => rfl
  | cons e l =>
   simp only [List.cons_append] at ih h
   rw [incB, Bool.and_eq_true] at h ⊢
   exact ⟨h.1, ih h.2⟩
theorem storeOk_append (l m : List Node) (h : storeOk (l ++ m) = true) : storeOk l = true := by
 unfold storeOk at h ⊢
 rw [Bool.and_eq_true, List.map_append, List.all_append, Bool.and_eq_true] at h
 rw [Bool.and_eq_true]
 exact ⟨h.1.1, incB_left _ _ h.2⟩
theorem storeOk_take {l : List Node} {i : Nat} (h : storeOk (l.take i) = false) : storeOk l = false := by
 rw [Bool.eq_false_iff] at h ⊢
 intro hl
 exact h (storeOk_append (l.take i) (l.drop i) (by rwa [List.take_append_drop]))
theorem storeOk_first {l : List Node} {x : Node} (h : l[0]? = some x) : storeOk (l.take 1) = nodeOk x := by
 cases l with
 | nil => cases h
 | cons y l => cases h; simp [storeOk, incB]
theorem storeOk_next {l : List Node} {j : Nat} {y x : Node} (hy : l[j]? = some y) (hx : l[j + 1]? = some x) : storeOk (l.take (j + 2)) = (storeOk (l.take (j + 1)) && (nodeOk x && dotLt y.f0 x.f0)) := by
 have h1 : l.take (j + 1) = l.take j ++ [y] := by rw [List.take_succ_eq_append_getElem (List.getElem?_eq_some_iff.1 hy).1, (List.getElem?_eq_some_iff.1 hy).2]
 have h2 : l.take (j + 2) = l.take j ++ [y] ++ [x] := by rw [← h1, List.take_succ_eq_append_getElem (List.getElem?_eq_some_iff.1 hx).1, (List.getElem?_eq_some_iff.1 hx).2]
 rw [h2, h1]
 unfold storeOk
 simp only [List.all_append, List.map_append, List.map_cons, List.map_nil, List.append_assoc, List.cons_append, List.nil_append, incB_append]
 simp only [List.all_cons, List.all_nil, Bool.and_true]
 cases (List.take j l).all nodeOk <;> cases nodeOk y <;> cases nodeOk x <;> cases incB (List.map (·.f0) (List.take j l) ++ [y.f0]) <;> simp
def rvAInv (W0 : World) (ad : Addr) (n c0 k j : Nat) (x y : Node) (b : Bool) (z1 z2 z4 z5 z6 z7 z8 z9 z10 z11 z12 z13 z14 z15 z16 z17 z18 z19 z20 z21 z22 z23 z24 z25 z26 z27 z28 z29 z30 z31 z32 z33 z34 : Value) (L : Array Bool) (ac : Act) (V : World) : Prop := ∃ (l0 l1 l2 l3 l4 l5 l6 l7 l8 l9 l10 l11 l12 l13 l14 l15 l16 l17 l18 l19 l20 l21 l22 l23 l24 : Bool), L = #[l0, l1, l2, l3, l4, l5, l6, l7, l8, l9, l10, l11, l12, l13, l14, l15, l16, l17, l18, l19, l20, l21, l22, l23, l24] ∧ ac = { tmps := #[.slice (some ad) n c0, z1, z2, .int .i64 (k : Int), z4, z5, z6, z7, z8, z9, selv l0 (.slice (some ad) n c0) (z10), selv l1 (.int .i64 (k : Int)) (z11), selv l2 (.pointer (some (ad.add (k * 6)))) (z12), selv l3 (vNode x) (z13), selv l4 (.bool false) (z14), selv l5 (.bool true) (z15), selv l6 (.bool true) (z16), selv l7 (undef) (z17), selv l8 (undef) (z18), selv l9 (undef) (z19), selv l10 (undef) (z20), selv l11 (undef) (z21), selv l12 (undef) (z22), selv l13 (undef) (z23), selv l14 (undef) (z24), selv l15 (undef) (z25), selv l16 (undef) (z26), selv l17 (undef) (z27), selv l18 (undef) (z28), selv l19 (undef) (z29), selv l20 (undef) (z30), selv l21 (undef) (z31), selv l22 (undef) (z32), selv l23 (undef) (z33), selv l24 (.bool true) (z34)], defers := [] } ∧ Aside0 (Below W0.heap.size W0 V)
def rvBInv (W0 : World) (ad : Addr) (n c0 k j : Nat) (x y : Node) (b : Bool) (z1 z2 z4 z5 z6 z7 z8 z9 z10 z11 z12 z13 z14 z15 z16 z17 z18 z19 z20 z21 z22 z23 z24 z25 z26 z27 z28 z29 z30 z31 z32 z33 z34 : Value) (L : Array Bool) (ac : Act) (V : World) : Prop := ∃ (l0 l1 l2 l3 l4 l5 l6 l7 l8 l9 l10 l11 l12 l13 l14 l15 l16 l17 l18 l19 l20 l21 l22 l23 l24 : Bool), L = #[l0, l1, l2, l3, l4, l5, l6, l7, l8, l9, l10, l11, l12, l13, l14, l15, l16, l17, l18, l19, l20, l21, l22, l23, l24] ∧ ac = { tmps := #[.slice (some ad) n c0, z1, z2, .int .i64 0, z4, z5, z6, z7, z8, z9, selv l0 (.slice (some ad) n c0) (z10), selv l1 (.int .i64 0) (z11), selv l2 (.pointer (some ad)) (z12), selv l3 (vNode x) (z13), selv l4 (.bool true) (z14), selv l5 (.bool false) (z15), selv l6 (.bool false) (z16), selv l7 (.int .i64 0) (z17), selv l8 (.bool false) (z18), selv l9 (.bool false) (z19), selv l10 (undef) (z20), selv l11 (undef) (z21), selv l12 (undef) (z22), selv l13 (undef) (z23), selv l14 (undef) (z24), selv l15 (undef) (z25), selv l16 (undef) (z26), selv l17 (undef) (z27), selv l18 (undef) (z28), selv l19 (undef) (z29), selv l20 (undef) (z30), selv l21 (undef) (z31), selv l22 (undef) (z32), selv l23 (.bool false) (z33), selv l24 (.bool false) (z34)], defers := [] } ∧ Aside0 (Below W0.heap.size W0 V)
def rvCInv (W0 : World) (ad : Addr) (n c0 k j : Nat) (x y : Node) (b : Bool) (z1 z2 z4 z5 z6 z7 z8 z9 z10 z11 z12 z13 z14 z15 z16 z17 z18 z19 z20 z21 z22 z23 z24 z25 z26 z27 z28 z29 z30 z31 z32 z33 z34 : Value) (L : Array Bool) (ac : Act) (V : World) : Prop := ∃ (l0 l1 l2 l3 l4 l5 l6 l7 l8 l9 l10 l11 l12 l13 l14 l15 l16 l17 l18 l19 l20 l21 l22 l23 l24 : Bool), L = #[l0, l1, l2, l3, l4, l5, l6, l7, l8, l9, l10, l11, l12, l13, l14, l15, l16, l17, l18, l19, l20, l21, l22, l23, l24] ∧ ac = { tmps := #[.slice (some ad) n c0, z1, z2, .int .i64 (k : Int), z4, z5, z6, z7, z8, z9, selv l0 (.slice (some ad) n c0) (z10), selv l1 (.int .i64 (k : Int)) (z11), selv l2 (.pointer (some (ad.add (k * 6)))) (z12), selv l3 (vNode x) (z13), selv l4 (.bool true) (z14), selv l5 (.bool false) (z15), selv l6 (.bool false) (z16), selv l7 (.int .i64 (k : Int)) (z17), selv l8 (.bool true) (z18), selv l9 (.bool true) (z19), selv l10 (.slice (some ad) n c0) (z20), selv l11 (.int .i64 (k : Int)) (z21), selv l12 (.int .i64 ((k : Int) - 1)) (z22), selv l13 (.pointer (some (ad.add (j * 6)))) (z23), selv l14 (.pointer (some (ad.add (j * 6)))) (z24), selv l15 (vDot y.f0) (z25), selv l16 (.slice (some ad) n c0) (z26), selv l17 (.int .i64 (k : Int)) (z27), selv l18 (.pointer (some (ad.add (k * 6)))) (z28), selv l19 (.pointer (some (ad.add (k * 6)))) (z29), selv l20 (vDot x.f0) (z30), selv l21 (.bool b) (z31), selv l22 (.bool (!b)) (z32), selv l23 (.bool (!b)) (z33), selv l24 (.bool (!b)) (z34)], defers := [] } ∧ Aside0 (Below W0.heap.size W0 V)
set_option maxHeartbeats 4000000 in
set_option maxRecDepth 100000 in
theorem redpencilref10_Valid.calls (k : Nat) (A0 : Option Addr) (c0 : Nat) (l0 : List Node) (r : Bool) (w : World) (hr0 : Kd.C k35 w A0 l0.length l0) (hc0 : l0.length ≤ c0) (h : redpencilref10_Valid.f k l0 = some r) :
  Calls Tryz.prog 14 #[.slice A0 l0.length c0] w fun e w' => e = .returned (.bool r) ∧ Below w.heap.size w w' := by
 unfold redpencilref10_Valid.f at h
 by_cases hl : l0.length ≤ 1000000 ∧ (l0.all fun x => runeInB x.f3) = true
 rotate_left
 ·
  rw [if_neg hl] at h; cases h
 rw [if_pos hl] at h
 have HRES := Aside0.mk (Option.some.inj h)
 have HR := Aside0.mk hr0
 have HRN : Aside0 (∀ x ∈ l0, runeInB x.f3 = true) := ⟨List.all_eq_true.1 hl.2⟩
 obtain ⟨n, Hn⟩ : ∃ n, Aside0 (l0.length = n) := ⟨_, ⟨rfl⟩⟩
 have hn4 : n ≤ 1000000 := by rw [← Hn.out]; exact hl.1
 rw [Hn.out]
 clear hl h hr0 hc0 k
 go_enter Tryz.func14, Tryz.ntmps14
 go_wp2
 go_loopw [3] (fun i wr => ∃ k : Nat, k ≤ n ∧ i = .int .i64 k ∧ Aside0 (storeOk (l0.take k) = true) ∧ Aside0 (Below w.heap.size w wr)) (fun i _ => n - (intOf i).toNat)
 case atStart => exact ⟨0, Nat.zero_le _, rfl, ⟨rfl⟩, ⟨Below.refl _ _⟩⟩
 case round =>
  obtain ⟨k, hk, rfl, HOK, HB⟩ := hrel
  by_cases hlt : k < n
  ·
   have hltb : decide ((k : Int) < (n : Int)) = true := decide_eq_true (by omega)
   obtain ⟨x, Hx⟩ : ∃ x, Aside0 (l0[k]? = some x) := ⟨_, ⟨List.getElem?_eq_getElem (by rw [Hn.out]; exact hlt)⟩⟩
   obtain ⟨ad, e, g0, g1, g2, g3, g4, g5⟩ := node_at HR.out (below_drew1 HB.out) k x Hx.out
   subst e
   have HG := Aside0.mk (And.intro g0 (And.intro g1 (And.intro g2 (And.intro g3 (And.intro g4 g5)))))
   have HKN : Aside0 (k < n ∧ n ≤ 1000000) := ⟨hlt, hn4⟩
   have HNV : Aside0 (redpencilref09_Valid.f x.f0.f0 x.f0.f1 x.f1.f0 x.f1.f1 x.f2 x.f3 = some (nodeOk x)) := ⟨rv_node x (HRN.out x (List.mem_of_getElem? Hx.out))⟩
   have HB9 := Aside0.mk (below_drew1 HB.out)
   clear g0 g1 g2 g3 g4 g5
   obtain ⟨v, Hv⟩ : ∃ v, Aside0 (nodeOk x = v) := ⟨_, ⟨rfl⟩⟩
   cases v with
   | false =>
    have HEND : Aside0 (r = false) := ⟨by
     rw [← HRES.out]
     cases k with
     | zero => exact storeOk_take (i := 1) ((storeOk_first Hx.out).trans Hv.out)
     | succ j =>
      obtain ⟨y, hy⟩ : ∃ y, l0[j]? = some y := ⟨_, List.getElem?_eq_getElem (by rw [Hn.out]; omega)⟩
      refine storeOk_take (i := j + 2) ?_
      rw [storeOk_next hy Hx.out, Hv.out]; simp⟩
    go_wp2
    refine AnyOrder.wp_region (by kernel_rfl) (rvAInv wr.drew ad n c0 k k x x false _ _ _ _ _ _ _ _ _ _ _ _ _ _ _ _ _ _ _ _ _ _ _ _ _ _ _ _ _ _ _ _ _) ⟨false, false, false, false, false, false, false, false, false, false, false, false, false, false, false, false, false, false, false, false, false, false, false, false, false, rfl, rfl, ⟨Below.refl _ _⟩⟩ ?step ?last
    case step =>
     rintro L ac V i ⟨l0, l1, l2, l3, l4, l5, l6, l7, l8, l9, l10, l11, l12, l13, l14, l15, l16, l17, l18, l19, l20, l21, l22, l23, l24, rfl, rfl, HF⟩ hi K hK
     have h1 : i = 0 ∨ i = 1 ∨ i = 2 ∨ i = 3 ∨ i = 4 ∨ i = 5 ∨ i = 6 ∨ i = 7 ∨ i = 8 ∨ i = 9 ∨ i = 10 ∨ i = 11 ∨ i = 12 ∨ i = 13 ∨ i = 14 ∨ i = 15 ∨ i = 16 ∨ i = 17 ∨ i = 18 ∨ i = 19 ∨ i = 20 ∨ i = 21 ∨ i = 22 ∨ i = 23 ∨ i = 24 := by
      have h1 := (AnyOrder.mem_ready hi).1
      clear hi hK
      change i < 25 at h1
      omega
     rcases h1 with rfl | rfl | rfl | rfl | rfl | rfl | rfl | rfl | rfl | rfl | rfl | rfl | rfl | rfl | rfl | rfl | rfl | rfl | rfl | rfl | rfl | rfl | rfl | rfl | rfl
     ·
      obtain rfl : l0 = false := (AnyOrder.mem_ready hi).2.1
      clear hi
      refine AnyOrder.wpOp_go rfl (by rfl) ?_
      go_wp2_with fail
      exact ⟨true, l1, l2, l3, l4, l5, l6, l7, l8, l9, l10, l11, l12, l13, l14, l15, l16, l17, l18, l19, l20, l21, l22, l23, l24, rfl, rfl, HF⟩
     ·
      obtain rfl : l1 = false := (AnyOrder.mem_ready hi).2.1
      clear hi
      refine AnyOrder.wpOp_go rfl (by rfl) ?_
      go_wp2_with fail
      exact ⟨l0, true, l2, l3, l4, l5, l6, l7, l8, l9, l10, l11, l12, l13, l14, l15, l16, l17, l18, l19, l20, l21, l22, l23, l24, rfl, rfl, HF⟩
     ·
      obtain rfl : l2 = false := (AnyOrder.mem_ready hi).2.1
      obtain rfl : l0 = true := AnyOrder.dep (q := 0) hi rfl rfl rfl
      obtain rfl : l1 = true := AnyOrder.dep (q := 1) hi rfl rfl rfl
      clear hi
      simp only [sel_true, selv_true] at hK ⊢
      have hkk := HKN.out.1
      have hkl2 := HKN.out.2
      refine AnyOrder.wpOp_go rfl (by rfl) ?_
      go_wp2_with fail
      exact ⟨true, true, true, l3, l4, l5, l6, l7, l8, l9, l10, l11, l12, l13, l14, l15, l16, l17, l18, l19, l20, l21, l22, l23, l24, rfl, rfl, HF⟩
     ·
      obtain rfl : l3 = false := (AnyOrder.mem_ready hi).2.1
      obtain rfl : l2 = true := AnyOrder.dep (q := 0) hi rfl rfl rfl
      clear hi
      simp only [sel_true, selv_true] at hK ⊢
      obtain ⟨g0, g1, g2, g3, g4, g5⟩ := HG.out
      have g0 := pw_cell_below HF.out g0
      have g1 := pw_cell_below HF.out g1
      have g2 := pw_cell_below HF.out g2
      have g3 := pw_cell_below HF.out g3
      have g4 := pw_cell_below HF.out g4
      have g5 := pw_cell_below HF.out g5
      refine AnyOrder.wpOp_go rfl (by rfl) ?_
      go_wp2_with fail
      exact ⟨l0, l1, true, true, l4, l5, l6, l7, l8, l9, l10, l11, l12, l13, l14, l15, l16, l17, l18, l19, l20, l21, l22, l23, l24, rfl, rfl, HF⟩
     ·
      obtain rfl : l4 = false := (AnyOrder.mem_ready hi).2.1
      obtain rfl : l3 = true := AnyOrder.dep (q := 0) hi rfl rfl rfl
      clear hi
      simp only [sel_true, selv_true] at hK ⊢
      refine AnyOrder.wpOp_go rfl (by rfl) ?_
      go_wp2_with fail
      refine (redpencilref09_Valid.calls _ _ _ _ _ _ false V (by rw [HNV.out, Hv.out])).mono ?_
      rintro e V' ⟨rfl, hb⟩
      exact hK _ _ ⟨l0, l1, l2, true, true, l5, l6, l7, l8, l9, l10, l11, l12, l13, l14, l15, l16, l17, l18, l19, l20, l21, l22, l23, l24, rfl, rfl, ⟨below_more HF.out hb⟩⟩
     ·
      obtain rfl : l5 = false := (AnyOrder.mem_ready hi).2.1
      obtain rfl : l4 = true := AnyOrder.dep (q := 0) hi rfl rfl rfl
      clear hi
      simp only [sel_true, selv_true] at hK ⊢
      refine AnyOrder.wpOp_go rfl (by rfl) ?_
      go_wp2_with fail
      exact ⟨l0, l1, l2, l3, true, true, l6, l7, l8, l9, l10, l11, l12, l13, l14, l15, l16, l17, l18, l19, l20, l21, l22, l23, l24, rfl, rfl, HF⟩
     ·
      obtain rfl : l6 = false := (AnyOrder.mem_ready hi).2.1
      obtain rfl : l5 = true := AnyOrder.dep (q := 0) hi rfl rfl rfl
      obtain rfl : l4 = true := AnyOrder.dep (q := 1) hi rfl rfl rfl
      clear hi
      simp only [sel_true, selv_true] at hK ⊢
      refine AnyOrder.wpOp_go rfl (by rfl) ?_
      go_wp2_with fail
      exact ⟨l0, l1, l2, l3, true, true, true, l7, l8, l9, l10, l11, l12, l13, l14, l15, l16, l17, l18, l19, l20, l21, l22, l23, l24, rfl, rfl, HF⟩
     ·
      obtain rfl : l7 = false := (AnyOrder.mem_ready hi).2.1
      obtain rfl : l6 = true := AnyOrder.dep (q := 0) hi rfl rfl rfl
      clear hi
      simp only [sel_true, selv_true] at hK ⊢
      refine AnyOrder.wpOp_out rfl (by rfl) ?_
      exact hK _ _ ⟨l0, l1, l2, l3, l4, l5, true, true, l8, l9, l10, l11, l12, l13, l14, l15, l16, l17, l18, l19, l20, l21, l22, l23, l24, rfl, rfl, HF⟩
     ·
      obtain rfl : l8 = false := (AnyOrder.mem_ready hi).2.1
      obtain rfl : l7 = true := AnyOrder.dep (q := 0) hi rfl rfl rfl
      obtain rfl : l6 = true := AnyOrder.dep (q := 1) hi rfl rfl rfl
      clear hi
      simp only [sel_true, selv_true] at hK ⊢
      refine AnyOrder.wpOp_out rfl (by rfl) ?_
      exact hK _ _ ⟨l0, l1, l2, l3, l4, l5, true, true, true, l9, l10, l11, l12, l13, l14, l15, l16, l17, l18, l19, l20, l21, l22, l23, l24, rfl, rfl, HF⟩
     ·
      obtain rfl : l9 = false := (AnyOrder.mem_ready hi).2.1
      obtain rfl : l8 = true := AnyOrder.dep (q := 0) hi rfl rfl rfl
      obtain rfl : l6 = true := AnyOrder.dep (q := 1) hi rfl rfl rfl
      clear hi
      simp only [sel_true, selv_true] at hK ⊢
      refine AnyOrder.wpOp_out rfl (by rfl) ?_
      exact hK _ _ ⟨l0, l1, l2, l3, l4, l5, true, l7, true, true, l10, l11, l12, l13, l14, l15, l16, l17, l18, l19, l20, l21, l22, l23, l24, rfl, rfl, HF⟩
     ·
      obtain rfl : l10 = false := (AnyOrder.mem_ready hi).2.1
      obtain rfl : l9 = true := AnyOrder.dep (q := 0) hi rfl rfl rfl
      clear hi
      simp only [sel_true, selv_true] at hK ⊢
      refine AnyOrder.wpOp_out rfl (by rfl) ?_
      exact hK _ _ ⟨l0, l1, l2, l3, l4, l5, l6, l7, l8, true, true, l11, l12, l13, l14, l15, l16, l17, l18, l19, l20, l21, l22, l23, l24, rfl, rfl, HF⟩
     ·
      obtain rfl : l11 = false := (AnyOrder.mem_ready hi).2.1
      obtain rfl : l9 = true := AnyOrder.dep (q := 0) hi rfl rfl rfl
      clear hi
      simp only [sel_true, selv_true] at hK ⊢
      refine AnyOrder.wpOp_out rfl (by rfl) ?_
      exact hK _ _ ⟨l0, l1, l2, l3, l4, l5, l6, l7, l8, true, l10, true, l12, l13, l14, l15, l16, l17, l18, l19, l20, l21, l22, l23, l24, rfl, rfl, HF⟩
     ·
      obtain rfl : l12 = false := (AnyOrder.mem_ready hi).2.1
      obtain rfl : l11 = true := AnyOrder.dep (q := 0) hi rfl rfl rfl
      obtain rfl : l9 = true := AnyOrder.dep (q := 1) hi rfl rfl rfl
      clear hi
      simp only [sel_true, selv_true] at hK ⊢
      refine AnyOrder.wpOp_out rfl (by rfl) ?_
      exact hK _ _ ⟨l0, l1, l2, l3, l4, l5, l6, l7, l8, true, l10, true, true, l13, l14, l15, l16, l17, l18, l19, l20, l21, l22, l23, l24, rfl, rfl, HF⟩
     ·
      obtain rfl : l13 = false := (AnyOrder.mem_ready hi).2.1
      obtain rfl : l10 = true := AnyOrder.dep (q := 0) hi rfl rfl rfl
      obtain rfl : l12 = true := AnyOrder.dep (q := 1) hi rfl rfl rfl
      obtain rfl : l9 = true := AnyOrder.dep (q := 2) hi rfl rfl rfl
      clear hi
      simp only [sel_true, selv_true] at hK ⊢
      refine AnyOrder.wpOp_out rfl (by rfl) ?_
      exact hK _ _ ⟨l0, l1, l2, l3, l4, l5, l6, l7, l8, true, true, l11, true, true, l14, l15, l16, l17, l18, l19, l20, l21, l22, l23, l24, rfl, rfl, HF⟩
     ·
      obtain rfl : l14 = false := (AnyOrder.mem_ready hi).2.1
      obtain rfl : l13 = true := AnyOrder.dep (q := 0) hi rfl rfl rfl
      obtain rfl : l9 = true := AnyOrder.dep (q := 1) hi rfl rfl rfl
      clear hi
      simp only [sel_true, selv_true] at hK ⊢
      refine AnyOrder.wpOp_out rfl (by rfl) ?_
      exact hK _ _ ⟨l0, l1, l2, l3, l4, l5, l6, l7, l8, true, l10, l11, l12, true, true, l15, l16, l17, l18, l19, l20, l21, l22, l23, l24, rfl, rfl, HF⟩
     ·
      obtain rfl : l15 = false := (AnyOrder.mem_ready hi).2.1
      obtain rfl : l14 = true := AnyOrder.dep (q := 0) hi rfl rfl rfl
      obtain rfl : l9 = true := AnyOrder.dep (q := 1) hi rfl rfl rfl
      clear hi
      simp only [sel_true, selv_true] at hK ⊢
      refine AnyOrder.wpOp_out rfl (by rfl) ?_
      exact hK _ _ ⟨l0, l1, l2, l3, l4, l5, l6, l7, l8, true, l10, l11, l12, l13, true, true, l16, l17, l18, l19, l20, l21, l22, l23, l24, rfl, rfl, HF⟩
     ·
      obtain rfl : l16 = false := (AnyOrder.mem_ready hi).2.1
      obtain rfl : l9 = true := AnyOrder.dep (q := 0) hi rfl rfl rfl
      clear hi
      simp only [sel_true, selv_true] at hK ⊢
      refine AnyOrder.wpOp_out rfl (by rfl) ?_
      exact hK _ _ ⟨l0, l1, l2, l3, l4, l5, l6, l7, l8, true, l10, l11, l12, l13, l14, l15, true, l17, l18, l19, l20, l21, l22, l23, l24, rfl, rfl, HF⟩
     ·
      obtain rfl : l17 = false := (AnyOrder.mem_ready hi).2.1
      obtain rfl : l9 = true := AnyOrder.dep (q := 0) hi rfl rfl rfl
      clear hi
      simp only [sel_true, selv_true] at hK ⊢
      refine AnyOrder.wpOp_out rfl (by rfl) ?_
      exact hK _ _ ⟨l0, l1, l2, l3, l4, l5, l6, l7, l8, true, l10, l11, l12, l13, l14, l15, l16, true, l18, l19, l20, l21, l22, l23, l24, rfl, rfl, HF⟩
     ·
      obtain rfl : l18 = false := (AnyOrder.mem_ready hi).2.1
      obtain rfl : l16 = true := AnyOrder.dep (q := 0) hi rfl rfl rfl
      obtain rfl : l17 = true := AnyOrder.dep (q := 1) hi rfl rfl rfl
      obtain rfl : l9 = true := AnyOrder.dep (q := 2) hi rfl rfl rfl
      clear hi
      simp only [sel_true, selv_true] at hK ⊢
      refine AnyOrder.wpOp_out rfl (by rfl) ?_
      exact hK _ _ ⟨l0, l1, l2, l3, l4, l5, l6, l7, l8, true, l10, l11, l12, l13, l14, l15, true, true, true, l19, l20, l21, l22, l23, l24, rfl, rfl, HF⟩
     ·
      obtain rfl : l19 = false := (AnyOrder.mem_ready hi).2.1
      obtain rfl : l18 = true := AnyOrder.dep (q := 0) hi rfl rfl rfl
      obtain rfl : l9 = true := AnyOrder.dep (q := 1) hi rfl rfl rfl
      clear hi
      simp only [sel_true, selv_true] at hK ⊢
      refine AnyOrder.wpOp_out rfl (by rfl) ?_
      exact hK _ _ ⟨l0, l1, l2, l3, l4, l5, l6, l7, l8, true, l10, l11, l12, l13, l14, l15, l16, l17, true, true, l20, l21, l22, l23, l24, rfl, rfl, HF⟩
     ·
      obtain rfl : l20 = false := (AnyOrder.mem_ready hi).2.1
      obtain rfl : l19 = true := AnyOrder.dep (q := 0) hi rfl rfl rfl
      obtain rfl : l9 = true := AnyOrder.dep (q := 1) hi rfl rfl rfl
      clear hi
      simp only [sel_true, selv_true] at hK ⊢
      refine AnyOrder.wpOp_out rfl (by rfl) ?_
      exact hK _ _ ⟨l0, l1, l2, l3, l4, l5, l6, l7, l8, true, l10, l11, l12, l13, l14, l15, l16, l17, l18, true, true, l21, l22, l23, l24, rfl, rfl, HF⟩
     ·
      obtain rfl : l21 = false := (AnyOrder.mem_ready hi).2.1
      obtain rfl : l15 = true := AnyOrder.dep (q := 0) hi rfl rfl rfl
      obtain rfl : l20 = true := AnyOrder.dep (q := 1) hi rfl rfl rfl
      obtain rfl : l9 = true := AnyOrder.dep (q := 2) hi rfl rfl rfl
      clear hi
      simp only [sel_true, selv_true] at hK ⊢
      refine AnyOrder.wpOp_out rfl (by rfl) ?_
      exact hK _ _ ⟨l0, l1, l2, l3, l4, l5, l6, l7, l8, true, l10, l11, l12, l13, l14, true, l16, l17, l18, l19, true, true, l22, l23, l24, rfl, rfl, HF⟩
     ·
      obtain rfl : l22 = false := (AnyOrder.mem_ready hi).2.1
      obtain rfl : l21 = true := AnyOrder.dep (q := 0) hi rfl rfl rfl
      obtain rfl : l9 = true := AnyOrder.dep (q := 1) hi rfl rfl rfl
      clear hi
      simp only [sel_true, selv_true] at hK ⊢
      refine AnyOrder.wpOp_out rfl (by rfl) ?_
      exact hK _ _ ⟨l0, l1, l2, l3, l4, l5, l6, l7, l8, true, l10, l11, l12, l13, l14, l15, l16, l17, l18, l19, l20, true, true, l23, l24, rfl, rfl, HF⟩
     ·
      obtain rfl : l23 = false := (AnyOrder.mem_ready hi).2.1
      obtain rfl : l9 = true := AnyOrder.dep (q := 0) hi rfl rfl rfl
      obtain rfl : l22 = true := AnyOrder.dep (q := 1) hi rfl rfl rfl
      obtain rfl : l6 = true := AnyOrder.dep (q := 2) hi rfl rfl rfl
      clear hi
      simp only [sel_true, selv_true] at hK ⊢
      refine AnyOrder.wpOp_out rfl (by rfl) ?_
      exact hK _ _ ⟨l0, l1, l2, l3, l4, l5, true, l7, l8, true, l10, l11, l12, l13, l14, l15, l16, l17, l18, l19, l20, l21, true, true, l24, rfl, rfl, HF⟩
     ·
      obtain rfl : l24 = false := (AnyOrder.mem_ready hi).2.1
      obtain rfl : l6 = true := AnyOrder.dep (q := 0) hi rfl rfl rfl
      obtain rfl : l23 = true := AnyOrder.dep (q := 1) hi rfl rfl rfl
      clear hi
      simp only [sel_true, selv_true] at hK ⊢
      refine AnyOrder.wpOp_go rfl (by rfl) ?_
      go_wp2_with fail
      exact ⟨l0, l1, l2, l3, l4, l5, true, l7, l8, l9, l10, l11, l12, l13, l14, l15, l16, l17, l18, l19, l20, l21, l22, true, true, rfl, rfl, HF⟩
    case last =>
     rintro L ac V ⟨l0, l1, l2, l3, l4, l5, l6, l7, l8, l9, l10, l11, l12, l13, l14, l15, l16, l17, l18, l19, l20, l21, l22, l23, l24, rfl, rfl, HF⟩ hr
     have hall := AnyOrder.all_listed rfl (by kernel_rfl) hr
     clear hr
     obtain rfl : l0 = true := hall 0 (by decide)
     obtain rfl : l1 = true := hall 1 (by decide)
     obtain rfl : l2 = true := hall 2 (by decide)
     obtain rfl : l3 = true := hall 3 (by decide)
     obtain rfl : l4 = true := hall 4 (by decide)
     obtain rfl : l5 = true := hall 5 (by decide)
     obtain rfl : l6 = true := hall 6 (by decide)
     obtain rfl : l7 = true := hall 7 (by decide)
     obtain rfl : l8 = true := hall 8 (by decide)
     obtain rfl : l9 = true := hall 9 (by decide)
     obtain rfl : l10 = true := hall 10 (by decide)
     obtain rfl : l11 = true := hall 11 (by decide)
     obtain rfl : l12 = true := hall 12 (by decide)
     obtain rfl : l13 = true := hall 13 (by decide)
     obtain rfl : l14 = true := hall 14 (by decide)
     obtain rfl : l15 = true := hall 15 (by decide)
     obtain rfl : l16 = true := hall 16 (by decide)
     obtain rfl : l17 = true := hall 17 (by decide)
     obtain rfl : l18 = true := hall 18 (by decide)
     obtain rfl : l19 = true := hall 19 (by decide)
     obtain rfl : l20 = true := hall 20 (by decide)
     obtain rfl : l21 = true := hall 21 (by decide)
     obtain rfl : l22 = true := hall 22 (by decide)
     obtain rfl : l23 = true := hall 23 (by decide)
     obtain rfl : l24 = true := hall 24 (by decide)
     clear hall
     simp only [sel_true, selv_true]
     have HB2 := Aside0.mk (below_more HB9.out HF.out)
     go_wp2
     go_ret
     exact ⟨by rw [HEND.out]; rfl, HB2.out⟩
   | true =>
    rcases Nat.eq_zero_or_pos k with rfl | hpos
    ·
     have HST : Aside0 (storeOk (l0.take 1) = true) := ⟨(storeOk_first Hx.out).trans Hv.out⟩
     have ha : ad.add (0 * 6) = ad := by simp [Addr.add]
     rw [ha] at HG
     clear ha
     go_wp2
     refine AnyOrder.wp_region (by kernel_rfl) (rvBInv wr.drew ad n c0 0 0 x x false _ _ _ _ _ _ _ _ _ _ _ _ _ _ _ _ _ _ _ _ _ _ _ _ _ _ _ _ _ _ _ _ _) ⟨false, false, false, false, false, false, false, false, false, false, false, false, false, false, false, false, false, false, false, false, false, false, false, false, false, rfl, rfl, ⟨Below.refl _ _⟩⟩ ?step ?last
     case step =>
      rintro L ac V i ⟨l0, l1, l2, l3, l4, l5, l6, l7, l8, l9, l10, l11, l12, l13, l14, l15, l16, l17, l18, l19, l20, l21, l22, l23, l24, rfl, rfl, HF⟩ hi K hK
      have h1 : i = 0 ∨ i = 1 ∨ i = 2 ∨ i = 3 ∨ i = 4 ∨ i = 5 ∨ i = 6 ∨ i = 7 ∨ i = 8 ∨ i = 9 ∨ i = 10 ∨ i = 11 ∨ i = 12 ∨ i = 13 ∨ i = 14 ∨ i = 15 ∨ i = 16 ∨ i = 17 ∨ i = 18 ∨ i = 19 ∨ i = 20 ∨ i = 21 ∨ i = 22 ∨ i = 23 ∨ i = 24 := by
       have h1 := (AnyOrder.mem_ready hi).1
       clear hi hK
       change i < 25 at h1
       omega
      rcases h1 with rfl | rfl | rfl | rfl | rfl | rfl | rfl | rfl | rfl | rfl | rfl | rfl | rfl | rfl | rfl | rfl | rfl | rfl | rfl | rfl | rfl | rfl | rfl | rfl | rfl
      ·
       obtain rfl : l0 = false := (AnyOrder.mem_ready hi).2.1
       clear hi
       refine AnyOrder.wpOp_go rfl (by rfl) ?_
       go_wp2_with fail
       exact ⟨true, l1, l2, l3, l4, l5, l6, l7, l8, l9, l10, l11, l12, l13, l14, l15, l16, l17, l18, l19, l20, l21, l22, l23, l24, rfl, rfl, HF⟩
      ·
       obtain rfl : l1 = false := (AnyOrder.mem_ready hi).2.1
       clear hi
       refine AnyOrder.wpOp_go rfl (by rfl) ?_
       go_wp2_with fail
       exact ⟨l0, true, l2, l3, l4, l5, l6, l7, l8, l9, l10, l11, l12, l13, l14, l15, l16, l17, l18, l19, l20, l21, l22, l23, l24, rfl, rfl, HF⟩
      ·
       obtain rfl : l2 = false := (AnyOrder.mem_ready hi).2.1
       obtain rfl : l0 = true := AnyOrder.dep (q := 0) hi rfl rfl rfl
       obtain rfl : l1 = true := AnyOrder.dep (q := 1) hi rfl rfl rfl
       clear hi
       simp only [sel_true, selv_true] at hK ⊢
       have hkk := HKN.out.1
       have hkl2 := HKN.out.2
       refine AnyOrder.wpOp_go rfl (by rfl) ?_
       go_wp2_with fail
       exact ⟨true, true, true, l3, l4, l5, l6, l7, l8, l9, l10, l11, l12, l13, l14, l15, l16, l17, l18, l19, l20, l21, l22, l23, l24, rfl, rfl, HF⟩
      ·
       obtain rfl : l3 = false := (AnyOrder.mem_ready hi).2.1
       obtain rfl : l2 = true := AnyOrder.dep (q := 0) hi rfl rfl rfl
       clear hi
       simp only [sel_true, selv_true] at hK ⊢
       obtain ⟨g0, g1, g2, g3, g4, g5⟩ := HG.out
       have g0 := pw_cell_below HF.out g0
       have g1 := pw_cell_below HF.out g1
       have g2 := pw_cell_below HF.out g2
       have g3 := pw_cell_below HF.out g3
       have g4 := pw_cell_below HF.out g4
       have g5 := pw_cell_below HF.out g5
       refine AnyOrder.wpOp_go rfl (by rfl) ?_
       go_wp2_with fail
       exact ⟨l0, l1, true, true, l4, l5, l6, l7, l8, l9, l10, l11, l12, l13, l14, l15, l16, l17, l18, l19, l20, l21, l22, l23, l24, rfl, rfl, HF⟩
      ·
       obtain rfl : l4 = false := (AnyOrder.mem_ready hi).2.1
       obtain rfl : l3 = true := AnyOrder.dep (q := 0) hi rfl rfl rfl
       clear hi
       simp only [sel_true, selv_true] at hK ⊢
       refine AnyOrder.wpOp_go rfl (by rfl) ?_
       go_wp2_with fail
       refine (redpencilref09_Valid.calls _ _ _ _ _ _ true V (by rw [HNV.out, Hv.out])).mono ?_
       rintro e V' ⟨rfl, hb⟩
       exact hK _ _ ⟨l0, l1, l2, true, true, l5, l6, l7, l8, l9, l10, l11, l12, l13, l14, l15, l16, l17, l18, l19, l20, l21, l22, l23, l24, rfl, rfl, ⟨below_more HF.out hb⟩⟩
      ·
       obtain rfl : l5 = false := (AnyOrder.mem_ready hi).2.1
       obtain rfl : l4 = true := AnyOrder.dep (q := 0) hi rfl rfl rfl
       clear hi
       simp only [sel_true, selv_true] at hK ⊢
       refine AnyOrder.wpOp_go rfl (by rfl) ?_
       go_wp2_with fail
       exact ⟨l0, l1, l2, l3, true, true, l6, l7, l8, l9, l10, l11, l12, l13, l14, l15, l16, l17, l18, l19, l20, l21, l22, l23, l24, rfl, rfl, HF⟩
      ·
       obtain rfl : l6 = false := (AnyOrder.mem_ready hi).2.1
       obtain rfl : l5 = true := AnyOrder.dep (q := 0) hi rfl rfl rfl
       obtain rfl : l4 = true := AnyOrder.dep (q := 1) hi rfl rfl rfl
       clear hi
       simp only [sel_true, selv_true] at hK ⊢
       refine AnyOrder.wpOp_go rfl (by rfl) ?_
       go_wp2_with fail
       exact ⟨l0, l1, l2, l3, true, true, true, l7, l8, l9, l10, l11, l12, l13, l14, l15, l16, l17, l18, l19, l20, l21, l22, l23, l24, rfl, rfl, HF⟩
      ·
       obtain rfl : l7 = false := (AnyOrder.mem_ready hi).2.1
       obtain rfl : l6 = true := AnyOrder.dep (q := 0) hi rfl rfl rfl
       clear hi
       simp only [sel_true, selv_true] at hK ⊢
       refine AnyOrder.wpOp_go rfl (by rfl) ?_
       go_wp2_with fail
       exact ⟨l0, l1, l2, l3, l4, l5, true, true, l8, l9, l10, l11, l12, l13, l14, l15, l16, l17, l18, l19, l20, l21, l22, l23, l24, rfl, rfl, HF⟩
      ·
       obtain rfl : l8 = false := (AnyOrder.mem_ready hi).2.1
       obtain rfl : l7 = true := AnyOrder.dep (q := 0) hi rfl rfl rfl
       obtain rfl : l6 = true := AnyOrder.dep (q := 1) hi rfl rfl rfl
       clear hi
       simp only [sel_true, selv_true] at hK ⊢
       refine AnyOrder.wpOp_go rfl (by rfl) ?_
       go_wp2_with fail
       exact ⟨l0, l1, l2, l3, l4, l5, true, true, true, l9, l10, l11, l12, l13, l14, l15, l16, l17, l18, l19, l20, l21, l22, l23, l24, rfl, rfl, HF⟩
      ·
       obtain rfl : l9 = false := (AnyOrder.mem_ready hi).2.1
       obtain rfl : l8 = true := AnyOrder.dep (q := 0) hi rfl rfl rfl
       obtain rfl : l6 = true := AnyOrder.dep (q := 1) hi rfl rfl rfl
       clear hi
       simp only [sel_true, selv_true] at hK ⊢
       refine AnyOrder.wpOp_go rfl (by rfl) ?_
       go_wp2_with fail
       exact ⟨l0, l1, l2, l3, l4, l5, true, l7, true, true, l10, l11, l12, l13, l14, l15, l16, l17, l18, l19, l20, l21, l22, l23, l24, rfl, rfl, HF⟩
      ·
       obtain rfl : l10 = false := (AnyOrder.mem_ready hi).2.1
       obtain rfl : l9 = true := AnyOrder.dep (q := 0) hi rfl rfl rfl
       clear hi
       simp only [sel_true, selv_true] at hK ⊢
       refine AnyOrder.wpOp_out rfl (by rfl) ?_
       exact hK _ _ ⟨l0, l1, l2, l3, l4, l5, l6, l7, l8, true, true, l11, l12, l13, l14, l15, l16, l17, l18, l19, l20, l21, l22, l23, l24, rfl, rfl, HF⟩
      ·
       obtain rfl : l11 = false := (AnyOrder.mem_ready hi).2.1
       obtain rfl : l9 = true := AnyOrder.dep (q := 0) hi rfl rfl rfl
       clear hi
       simp only [sel_true, selv_true] at hK ⊢
       refine AnyOrder.wpOp_out rfl (by rfl) ?_
       exact hK _ _ ⟨l0, l1, l2, l3, l4, l5, l6, l7, l8, true, l10, true, l12, l13, l14, l15, l16, l17, l18, l19, l20, l21, l22, l23, l24, rfl, rfl, HF⟩
      ·
       obtain rfl : l12 = false := (AnyOrder.mem_ready hi).2.1
       obtain rfl : l11 = true := AnyOrder.dep (q := 0) hi rfl rfl rfl
       obtain rfl : l9 = true := AnyOrder.dep (q := 1) hi rfl rfl rfl
       clear hi
       simp only [sel_true, selv_true] at hK ⊢
       refine AnyOrder.wpOp_out rfl (by rfl) ?_
       exact hK _ _ ⟨l0, l1, l2, l3, l4, l5, l6, l7, l8, true, l10, true, true, l13, l14, l15, l16, l17, l18, l19, l20, l21, l22, l23, l24, rfl, rfl, HF⟩
      ·
       obtain rfl : l13 = false := (AnyOrder.mem_ready hi).2.1
       obtain rfl : l10 = true := AnyOrder.dep (q := 0) hi rfl rfl rfl
       obtain rfl : l12 = true := AnyOrder.dep (q := 1) hi rfl rfl rfl
       obtain rfl : l9 = true := AnyOrder.dep (q := 2) hi rfl rfl rfl
       clear hi
       simp only [sel_true, selv_true] at hK ⊢
       refine AnyOrder.wpOp_out rfl (by rfl) ?_
       exact hK _ _ ⟨l0, l1, l2, l3, l4, l5, l6, l7, l8, true, true, l11, true, true, l14, l15, l16, l17, l18, l19, l20, l21, l22, l23, l24, rfl, rfl, HF⟩
      ·
       obtain rfl : l14 = false := (AnyOrder.mem_ready hi).2.1
       obtain rfl : l13 = true := AnyOrder.dep (q := 0) hi rfl rfl rfl
       obtain rfl : l9 = true := AnyOrder.dep (q := 1) hi rfl rfl rfl
       clear hi
       simp only [sel_true, selv_true] at hK ⊢
       refine AnyOrder.wpOp_out rfl (by rfl) ?_
       exact hK _ _ ⟨l0, l1, l2, l3, l4, l5, l6, l7, l8, true, l10, l11, l12, true, true, l15, l16, l17, l18, l19, l20, l21, l22, l23, l24, rfl, rfl, HF⟩
      ·
       obtain rfl : l15 = false := (AnyOrder.mem_ready hi).2.1
       obtain rfl : l14 = true := AnyOrder.dep (q := 0) hi rfl rfl rfl
       obtain rfl : l9 = true := AnyOrder.dep (q := 1) hi rfl rfl rfl
       clear hi
       simp only [sel_true, selv_true] at hK ⊢
       refine AnyOrder.wpOp_out rfl (by rfl) ?_
       exact hK _ _ ⟨l0, l1, l2, l3, l4, l5, l6, l7, l8, true, l10, l11, l12, l13, true, true, l16, l17, l18, l19, l20, l21, l22, l23, l24, rfl, rfl, HF⟩
      ·
       obtain rfl : l16 = false := (AnyOrder.mem_ready hi).2.1
       obtain rfl : l9 = true := AnyOrder.dep (q := 0) hi rfl rfl rfl
       clear hi
       simp only [sel_true, selv_true] at hK ⊢
       refine AnyOrder.wpOp_out rfl (by rfl) ?_
       exact hK _ _ ⟨l0, l1, l2, l3, l4, l5, l6, l7, l8, true, l10, l11, l12, l13, l14, l15, true, l17, l18, l19, l20, l21, l22, l23, l24, rfl, rfl, HF⟩
      ·
       obtain rfl : l17 = false := (AnyOrder.mem_ready hi).2.1
       obtain rfl : l9 = true := AnyOrder.dep (q := 0) hi rfl rfl rfl
       clear hi
       simp only [sel_true, selv_true] at hK ⊢
       refine AnyOrder.wpOp_out rfl (by rfl) ?_
       exact hK _ _ ⟨l0, l1, l2, l3, l4, l5, l6, l7, l8, true, l10, l11, l12, l13, l14, l15, l16, true, l18, l19, l20, l21, l22, l23, l24, rfl, rfl, HF⟩
      ·
       obtain rfl : l18 = false := (AnyOrder.mem_ready hi).2.1
       obtain rfl : l16 = true := AnyOrder.dep (q := 0) hi rfl rfl rfl
       obtain rfl : l17 = true := AnyOrder.dep (q := 1) hi rfl rfl rfl
       obtain rfl : l9 = true := AnyOrder.dep (q := 2) hi rfl rfl rfl
       clear hi
       simp only [sel_true, selv_true] at hK ⊢
       refine AnyOrder.wpOp_out rfl (by rfl) ?_
       exact hK _ _ ⟨l0, l1, l2, l3, l4, l5, l6, l7, l8, true, l10, l11, l12, l13, l14, l15, true, true, true, l19, l20, l21, l22, l23, l24, rfl, rfl, HF⟩
      ·
       obtain rfl : l19 = false := (AnyOrder.mem_ready hi).2.1
       obtain rfl : l18 = true := AnyOrder.dep (q := 0) hi rfl rfl rfl
       obtain rfl : l9 = true := AnyOrder.dep (q := 1) hi rfl rfl rfl
       clear hi
       simp only [sel_true, selv_true] at hK ⊢
       refine AnyOrder.wpOp_out rfl (by rfl) ?_
       exact hK _ _ ⟨l0, l1, l2, l3, l4, l5, l6, l7, l8, true, l10, l11, l12, l13, l14, l15, l16, l17, true, true, l20, l21, l22, l23, l24, rfl, rfl, HF⟩
      ·
       obtain rfl : l20 = false := (AnyOrder.mem_ready hi).2.1
       obtain rfl : l19 = true := AnyOrder.dep (q := 0) hi rfl rfl rfl
       obtain rfl : l9 = true := AnyOrder.dep (q := 1) hi rfl rfl rfl
       clear hi
       simp only [sel_true, selv_true] at hK ⊢
       refine AnyOrder.wpOp_out rfl (by rfl) ?_
       exact hK _ _ ⟨l0, l1, l2, l3, l4, l5, l6, l7, l8, true, l10, l11, l12, l13, l14, l15, l16, l17, l18, true, true, l21, l22, l23, l24, rfl, rfl, HF⟩
      ·
       obtain rfl : l21 = false := (AnyOrder.mem_ready hi).2.1
       obtain rfl : l15 = true := AnyOrder.dep (q := 0) hi rfl rfl rfl
       obtain rfl : l20 = true := AnyOrder.dep (q := 1) hi rfl rfl rfl
       obtain rfl : l9 = true := AnyOrder.dep (q := 2) hi rfl rfl rfl
       clear hi
       simp only [sel_true, selv_true] at hK ⊢
       refine AnyOrder.wpOp_out rfl (by rfl) ?_
       exact hK _ _ ⟨l0, l1, l2, l3, l4, l5, l6, l7, l8, true, l10, l11, l12, l13, l14, true, l16, l17, l18, l19, true, true, l22, l23, l24, rfl, rfl, HF⟩
      ·
       obtain rfl : l22 = false := (AnyOrder.mem_ready hi).2.1
       obtain rfl : l21 = true := AnyOrder.dep (q := 0) hi rfl rfl rfl
       obtain rfl : l9 = true := AnyOrder.dep (q := 1) hi rfl rfl rfl
       clear hi
       simp only [sel_true, selv_true] at hK ⊢
       refine AnyOrder.wpOp_out rfl (by rfl) ?_
       exact hK _ _ ⟨l0, l1, l2, l3, l4, l5, l6, l7, l8, true, l10, l11, l12, l13, l14, l15, l16, l17, l18, l19, l20, true, true, l23, l24, rfl, rfl, HF⟩
      ·
       obtain rfl : l23 = false := (AnyOrder.mem_ready hi).2.1
       obtain rfl : l9 = true := AnyOrder.dep (q := 0) hi rfl rfl rfl
       obtain rfl : l22 = true := AnyOrder.dep (q := 1) hi rfl rfl rfl
       obtain rfl : l6 = true := AnyOrder.dep (q := 2) hi rfl rfl rfl
       clear hi
       simp only [sel_true, selv_true] at hK ⊢
       refine AnyOrder.wpOp_go rfl (by rfl) ?_
       go_wp2_with fail
       exact ⟨l0, l1, l2, l3, l4, l5, true, l7, l8, true, l10, l11, l12, l13, l14, l15, l16, l17, l18, l19, l20, l21, true, true, l24, rfl, rfl, HF⟩
      ·
       obtain rfl : l24 = false := (AnyOrder.mem_ready hi).2.1
       obtain rfl : l6 = true := AnyOrder.dep (q := 0) hi rfl rfl rfl
       obtain rfl : l23 = true := AnyOrder.dep (q := 1) hi rfl rfl rfl
       clear hi
       simp only [sel_true, selv_true] at hK ⊢
       refine AnyOrder.wpOp_go rfl (by rfl) ?_
       go_wp2_with fail
       exact ⟨l0, l1, l2, l3, l4, l5, true, l7, l8, l9, l10, l11, l12, l13, l14, l15, l16, l17, l18, l19, l20, l21, l22, true, true, rfl, rfl, HF⟩
     case last =>
      rintro L ac V ⟨l0, l1, l2, l3, l4, l5, l6, l7, l8, l9, l10, l11, l12, l13, l14, l15, l16, l17, l18, l19, l20, l21, l22, l23, l24, rfl, rfl, HF⟩ hr
      have hall := AnyOrder.all_listed rfl (by kernel_rfl) hr
      clear hr
      obtain rfl : l0 = true := hall 0 (by decide)
      obtain rfl : l1 = true := hall 1 (by decide)
      obtain rfl : l2 = true := hall 2 (by decide)
      obtain rfl : l3 = true := hall 3 (by decide)
      obtain rfl : l4 = true := hall 4 (by decide)
      obtain rfl : l5 = true := hall 5 (by decide)
      obtain rfl : l6 = true := hall 6 (by decide)
      obtain rfl : l7 = true := hall 7 (by decide)
      obtain rfl : l8 = true := hall 8 (by decide)
      obtain rfl : l9 = true := hall 9 (by decide)
      obtain rfl : l10 = true := hall 10 (by decide)
      obtain rfl : l11 = true := hall 11 (by decide)
      obtain rfl : l12 = true := hall 12 (by decide)
      obtain rfl : l13 = true := hall 13 (by decide)
      obtain rfl : l14 = true := hall 14 (by decide)
      obtain rfl : l15 = true := hall 15 (by decide)
      obtain rfl : l16 = true := hall 16 (by decide)
      obtain rfl : l17 = true := hall 17 (by decide)
      obtain rfl : l18 = true := hall 18 (by decide)
      obtain rfl : l19 = true := hall 19 (by decide)
      obtain rfl : l20 = true := hall 20 (by decide)
      obtain rfl : l21 = true := hall 21 (by decide)
      obtain rfl : l22 = true := hall 22 (by decide)
      obtain rfl : l23 = true := hall 23 (by decide)
      obtain rfl : l24 = true := hall 24 (by decide)
      clear hall
      simp only [sel_true, selv_true]
      have HB2 := Aside0.mk (below_more HB9.out HF.out)
      go_wp2
      go_roundw
      case rel => exact ⟨1, by omega, rfl, HST, HB2⟩
      case measure => simp [intOf] <;> omega
    ·
     obtain ⟨j, HKJ⟩ : ∃ j, Aside0 (k = j + 1) := ⟨k - 1, ⟨by omega⟩⟩
     have hkj := HKJ.out
     obtain ⟨y, Hy⟩ : ∃ y, Aside0 (l0[j]? = some y) := ⟨_, ⟨List.getElem?_eq_getElem (by rw [Hn.out]; omega)⟩⟩
     obtain ⟨ad', e, y0, y1, _, _, _, _⟩ := node_at HR.out HB9.out j y Hy.out
     cases e
     have HY := Aside0.mk (And.intro y0 y1)
     clear y0 y1
     obtain ⟨b, Hb⟩ : ∃ b, Aside0 (dotLt y.f0 x.f0 = b) := ⟨_, ⟨rfl⟩⟩
     have HST : Aside0 (storeOk (l0.take (k + 1)) = b) := ⟨by have h1 := HOK.out; have h2 := Hx.out; rw [hkj] at h1 h2 ⊢; rw [storeOk_next Hy.out h2, h1, Hv.out, Hb.out]; rfl⟩
     clear hkj
     go_wp2
     refine AnyOrder.wp_region (by kernel_rfl) (rvCInv wr.drew ad n c0 k j x y b _ _ _ _ _ _ _ _ _ _ _ _ _ _ _ _ _ _ _ _ _ _ _ _ _ _ _ _ _ _ _ _ _) ⟨false, false, false, false, false, false, false, false, false, false, false, false, false, false, false, false, false, false, false, false, false, false, false, false, false, rfl, rfl, ⟨Below.refl _ _⟩⟩ ?step ?last
     case step =>
      rintro L ac V i ⟨l0, l1, l2, l3, l4, l5, l6, l7, l8, l9, l10, l11, l12, l13, l14, l15, l16, l17, l18, l19, l20, l21, l22, l23, l24, rfl, rfl, HF⟩ hi K hK
      have h1 : i = 0 ∨ i = 1 ∨ i = 2 ∨ i = 3 ∨ i = 4 ∨ i = 5 ∨ i = 6 ∨ i = 7 ∨ i = 8 ∨ i = 9 ∨ i = 10 ∨ i = 11 ∨ i = 12 ∨ i = 13 ∨ i = 14 ∨ i = 15 ∨ i = 16 ∨ i = 17 ∨ i = 18 ∨ i = 19 ∨ i = 20 ∨ i = 21 ∨ i = 22 ∨ i = 23 ∨ i = 24 := by
       have h1 := (AnyOrder.mem_ready hi).1
       clear hi hK
       change i < 25 at h1
       omega
      rcases h1 with rfl | rfl | rfl | rfl | rfl | rfl | rfl | rfl | rfl | rfl | rfl | rfl | rfl | rfl | rfl | rfl | rfl | rfl | rfl | rfl | rfl | rfl | rfl | rfl | rfl
      ·
       obtain rfl : l0 = false := (AnyOrder.mem_ready hi).2.1
       clear hi
       refine AnyOrder.wpOp_go rfl (by rfl) ?_
       go_wp2_with fail
       exact ⟨true, l1, l2, l3, l4, l5, l6, l7, l8, l9, l10, l11, l12, l13, l14, l15, l16, l17, l18, l19, l20, l21, l22, l23, l24, rfl, rfl, HF⟩
      ·
       obtain rfl : l1 = false := (AnyOrder.mem_ready hi).2.1
       clear hi
       refine AnyOrder.wpOp_go rfl (by rfl) ?_
       go_wp2_with fail
       exact ⟨l0, true, l2, l3, l4, l5, l6, l7, l8, l9, l10, l11, l12, l13, l14, l15, l16, l17, l18, l19, l20, l21, l22, l23, l24, rfl, rfl, HF⟩
      ·
       obtain rfl : l2 = false := (AnyOrder.mem_ready hi).2.1
       obtain rfl : l0 = true := AnyOrder.dep (q := 0) hi rfl rfl rfl
       obtain rfl : l1 = true := AnyOrder.dep (q := 1) hi rfl rfl rfl
       clear hi
       simp only [sel_true, selv_true] at hK ⊢
       have hkk := HKN.out.1
       have hkl2 := HKN.out.2
       refine AnyOrder.wpOp_go rfl (by rfl) ?_
       go_wp2_with fail
       exact ⟨true, true, true, l3, l4, l5, l6, l7, l8, l9, l10, l11, l12, l13, l14, l15, l16, l17, l18, l19, l20, l21, l22, l23, l24, rfl, rfl, HF⟩
      ·
       obtain rfl : l3 = false := (AnyOrder.mem_ready hi).2.1
       obtain rfl : l2 = true := AnyOrder.dep (q := 0) hi rfl rfl rfl
       clear hi
       simp only [sel_true, selv_true] at hK ⊢
       obtain ⟨g0, g1, g2, g3, g4, g5⟩ := HG.out
       have g0 := pw_cell_below HF.out g0
       have g1 := pw_cell_below HF.out g1
       have g2 := pw_cell_below HF.out g2
       have g3 := pw_cell_below HF.out g3
       have g4 := pw_cell_below HF.out g4
       have g5 := pw_cell_below HF.out g5
       refine AnyOrder.wpOp_go rfl (by rfl) ?_
       go_wp2_with fail
       exact ⟨l0, l1, true, true, l4, l5, l6, l7, l8, l9, l10, l11, l12, l13, l14, l15, l16, l17, l18, l19, l20, l21, l22, l23, l24, rfl, rfl, HF⟩
      ·
       obtain rfl : l4 = false := (AnyOrder.mem_ready hi).2.1
       obtain rfl : l3 = true := AnyOrder.dep (q := 0) hi rfl rfl rfl
       clear hi
       simp only [sel_true, selv_true] at hK ⊢
       refine AnyOrder.wpOp_go rfl (by rfl) ?_
       go_wp2_with fail
       refine (redpencilref09_Valid.calls _ _ _ _ _ _ true V (by rw [HNV.out, Hv.out])).mono ?_
       rintro e V' ⟨rfl, hb⟩
       exact hK _ _ ⟨l0, l1, l2, true, true, l5, l6, l7, l8, l9, l10, l11, l12, l13, l14, l15, l16, l17, l18, l19, l20, l21, l22, l23, l24, rfl, rfl, ⟨below_more HF.out hb⟩⟩
      ·
       obtain rfl : l5 = false := (AnyOrder.mem_ready hi).2.1
       obtain rfl : l4 = true := AnyOrder.dep (q := 0) hi rfl rfl rfl
       clear hi
       simp only [sel_true, selv_true] at hK ⊢
       refine AnyOrder.wpOp_go rfl (by rfl) ?_
       go_wp2_with fail
       exact ⟨l0, l1, l2, l3, true, true, l6, l7, l8, l9, l10, l11, l12, l13, l14, l15, l16, l17, l18, l19, l20, l21, l22, l23, l24, rfl, rfl, HF⟩
      ·
       obtain rfl : l6 = false := (AnyOrder.mem_ready hi).2.1
       obtain rfl : l5 = true := AnyOrder.dep (q := 0) hi rfl rfl rfl
       obtain rfl : l4 = true := AnyOrder.dep (q := 1) hi rfl rfl rfl
       clear hi
       simp only [sel_true, selv_true] at hK ⊢
       refine AnyOrder.wpOp_go rfl (by rfl) ?_
       go_wp2_with fail
       exact ⟨l0, l1, l2, l3, true, true, true, l7, l8, l9, l10, l11, l12, l13, l14, l15, l16, l17, l18, l19, l20, l21, l22, l23, l24, rfl, rfl, HF⟩
      ·
       obtain rfl : l7 = false := (AnyOrder.mem_ready hi).2.1
       obtain rfl : l6 = true := AnyOrder.dep (q := 0) hi rfl rfl rfl
       clear hi
       simp only [sel_true, selv_true] at hK ⊢
       refine AnyOrder.wpOp_go rfl (by rfl) ?_
       go_wp2_with fail
       exact ⟨l0, l1, l2, l3, l4, l5, true, true, l8, l9, l10, l11, l12, l13, l14, l15, l16, l17, l18, l19, l20, l21, l22, l23, l24, rfl, rfl, HF⟩
      ·
       obtain rfl : l8 = false := (AnyOrder.mem_ready hi).2.1
       obtain rfl : l7 = true := AnyOrder.dep (q := 0) hi rfl rfl rfl
       obtain rfl : l6 = true := AnyOrder.dep (q := 1) hi rfl rfl rfl
       clear hi
       simp only [sel_true, selv_true] at hK ⊢
       have hkj := HKJ.out
       have hp : decide ((k : Int) > 0) = true := decide_eq_true (by omega)
       have hp2 : decide ((0 : Int) < (k : Int)) = true := decide_eq_true (by omega)
       have hp3 : decide (0 < k) = true := decide_eq_true (by omega)
       clear hkj
       refine AnyOrder.wpOp_go rfl (by rfl) ?_
       go_wp2_with fail
       exact ⟨l0, l1, l2, l3, l4, l5, true, true, true, l9, l10, l11, l12, l13, l14, l15, l16, l17, l18, l19, l20, l21, l22, l23, l24, rfl, rfl, HF⟩
      ·
       obtain rfl : l9 = false := (AnyOrder.mem_ready hi).2.1
       obtain rfl : l8 = true := AnyOrder.dep (q := 0) hi rfl rfl rfl
       obtain rfl : l6 = true := AnyOrder.dep (q := 1) hi rfl rfl rfl
       clear hi
       simp only [sel_true, selv_true] at hK ⊢
       refine AnyOrder.wpOp_go rfl (by rfl) ?_
       go_wp2_with fail
       exact ⟨l0, l1, l2, l3, l4, l5, true, l7, true, true, l10, l11, l12, l13, l14, l15, l16, l17, l18, l19, l20, l21, l22, l23, l24, rfl, rfl, HF⟩
      ·
       obtain rfl : l10 = false := (AnyOrder.mem_ready hi).2.1
       obtain rfl : l9 = true := AnyOrder.dep (q := 0) hi rfl rfl rfl
       clear hi
       simp only [sel_true, selv_true] at hK ⊢
       refine AnyOrder.wpOp_go rfl (by rfl) ?_
       go_wp2_with fail
       exact ⟨l0, l1, l2, l3, l4, l5, l6, l7, l8, true, true, l11, l12, l13, l14, l15, l16, l17, l18, l19, l20, l21, l22, l23, l24, rfl, rfl, HF⟩
      ·
       obtain rfl : l11 = false := (AnyOrder.mem_ready hi).2.1
       obtain rfl : l9 = true := AnyOrder.dep (q := 0) hi rfl rfl rfl
       clear hi
       simp only [sel_true, selv_true] at hK ⊢
       refine AnyOrder.wpOp_go rfl (by rfl) ?_
       go_wp2_with fail
       exact ⟨l0, l1, l2, l3, l4, l5, l6, l7, l8, true, l10, true, l12, l13, l14, l15, l16, l17, l18, l19, l20, l21, l22, l23, l24, rfl, rfl, HF⟩
      ·
       obtain rfl : l12 = false := (AnyOrder.mem_ready hi).2.1
       obtain rfl : l11 = true := AnyOrder.dep (q := 0) hi rfl rfl rfl
       obtain rfl : l9 = true := AnyOrder.dep (q := 1) hi rfl rfl rfl
       clear hi
       simp only [sel_true, selv_true] at hK ⊢
       have hw : wrap64 ((k : Int) - 1) = (k : Int) - 1 := by have h1 := HKJ.out; have h2 := HKN.out; unfold wrap64; omega
       refine AnyOrder.wpOp_go rfl (by rfl) ?_
       go_wp2_with fail
       exact ⟨l0, l1, l2, l3, l4, l5, l6, l7, l8, true, l10, true, true, l13, l14, l15, l16, l17, l18, l19, l20, l21, l22, l23, l24, rfl, rfl, HF⟩
      ·
       obtain rfl : l13 = false := (AnyOrder.mem_ready hi).2.1
       obtain rfl : l10 = true := AnyOrder.dep (q := 0) hi rfl rfl rfl
       obtain rfl : l12 = true := AnyOrder.dep (q := 1) hi rfl rfl rfl
       obtain rfl : l9 = true := AnyOrder.dep (q := 2) hi rfl rfl rfl
       clear hi
       simp only [sel_true, selv_true] at hK ⊢
       have hkk : (k : Int) - 1 < n ∧ 0 ≤ (k : Int) - 1 := by have h1 := HKJ.out; have h2 := HKN.out; omega
       have hk0 := hkk.1
       have hk2 := hkk.2
       have hkl2 := HKN.out.2
       have hk1 : ((k : Int) - 1).toNat = j := by have h1 := HKJ.out; omega
       refine AnyOrder.wpOp_go rfl (by rfl) ?_
       go_wp2_with fail
       exact ⟨l0, l1, l2, l3, l4, l5, l6, l7, l8, true, true, l11, true, true, l14, l15, l16, l17, l18, l19, l20, l21, l22, l23, l24, rfl, rfl, HF⟩
      ·
       obtain rfl : l14 = false := (AnyOrder.mem_ready hi).2.1
       obtain rfl : l13 = true := AnyOrder.dep (q := 0) hi rfl rfl rfl
       obtain rfl : l9 = true := AnyOrder.dep (q := 1) hi rfl rfl rfl
       clear hi
       simp only [sel_true, selv_true] at hK ⊢
       refine AnyOrder.wpOp_go rfl (by rfl) ?_
       go_wp2_with fail
       exact ⟨l0, l1, l2, l3, l4, l5, l6, l7, l8, true, l10, l11, l12, true, true, l15, l16, l17, l18, l19, l20, l21, l22, l23, l24, rfl, rfl, HF⟩
      ·
       obtain rfl : l15 = false := (AnyOrder.mem_ready hi).2.1
       obtain rfl : l14 = true := AnyOrder.dep (q := 0) hi rfl rfl rfl
       obtain rfl : l9 = true := AnyOrder.dep (q := 1) hi rfl rfl rfl
       clear hi
       simp only [sel_true, selv_true] at hK ⊢
       obtain ⟨y0, y1⟩ := HY.out
       have y0 := pw_cell_below HF.out y0
       have y1 := pw_cell_below HF.out y1
       refine AnyOrder.wpOp_go rfl (by rfl) ?_
       go_wp2_with fail
       exact ⟨l0, l1, l2, l3, l4, l5, l6, l7, l8, true, l10, l11, l12, l13, true, true, l16, l17, l18, l19, l20, l21, l22, l23, l24, rfl, rfl, HF⟩
      ·
       obtain rfl : l16 = false := (AnyOrder.mem_ready hi).2.1
       obtain rfl : l9 = true := AnyOrder.dep (q := 0) hi rfl rfl rfl
       clear hi
       simp only [sel_true, selv_true] at hK ⊢
       refine AnyOrder.wpOp_go rfl (by rfl) ?_
       go_wp2_with fail
       exact ⟨l0, l1, l2, l3, l4, l5, l6, l7, l8, true, l10, l11, l12, l13, l14, l15, true, l17, l18, l19, l20, l21, l22, l23, l24, rfl, rfl, HF⟩
      ·
       obtain rfl : l17 = false := (AnyOrder.mem_ready hi).2.1
       obtain rfl : l9 = true := AnyOrder.dep (q := 0) hi rfl rfl rfl
       clear hi
       simp only [sel_true, selv_true] at hK ⊢
       refine AnyOrder.wpOp_go rfl (by rfl) ?_
       go_wp2_with fail
       exact ⟨l0, l1, l2, l3, l4, l5, l6, l7, l8, true, l10, l11, l12, l13, l14, l15, l16, true, l18, l19, l20, l21, l22, l23, l24, rfl, rfl, HF⟩
      ·
       obtain rfl : l18 = false := (AnyOrder.mem_ready hi).2.1
       obtain rfl : l16 = true := AnyOrder.dep (q := 0) hi rfl rfl rfl
       obtain rfl : l17 = true := AnyOrder.dep (q := 1) hi rfl rfl rfl
       obtain rfl : l9 = true := AnyOrder.dep (q := 2) hi rfl rfl rfl
       clear hi
       simp only [sel_true, selv_true] at hK ⊢
       have hkk := HKN.out.1
       have hkl2 := HKN.out.2
       refine AnyOrder.wpOp_go rfl (by rfl) ?_
       go_wp2_with fail
       exact ⟨l0, l1, l2, l3, l4, l5, l6, l7, l8, true, l10, l11, l12, l13, l14, l15, true, true, true, l19, l20, l21, l22, l23, l24, rfl, rfl, HF⟩
      ·
       obtain rfl : l19 = false := (AnyOrder.mem_ready hi).2.1
       obtain rfl : l18 = true := AnyOrder.dep (q := 0) hi rfl rfl rfl
       obtain rfl : l9 = true := AnyOrder.dep (q := 1) hi rfl rfl rfl
       clear hi
       simp only [sel_true, selv_true] at hK ⊢
       refine AnyOrder.wpOp_go rfl (by rfl) ?_
       go_wp2_with fail
       exact ⟨l0, l1, l2, l3, l4, l5, l6, l7, l8, true, l10, l11, l12, l13, l14, l15, l16, l17, true, true, l20, l21, l22, l23, l24, rfl, rfl, HF⟩
      ·
       obtain rfl : l20 = false := (AnyOrder.mem_ready hi).2.1
       obtain rfl : l19 = true := AnyOrder.dep (q := 0) hi rfl rfl rfl
       obtain rfl : l9 = true := AnyOrder.dep (q := 1) hi rfl rfl rfl
       clear hi
       simp only [sel_true, selv_true] at hK ⊢
       obtain ⟨g0, g1, g2, g3, g4, g5⟩ := HG.out
       have g0 := pw_cell_below HF.out g0
       have g1 := pw_cell_below HF.out g1
       have g2 := pw_cell_below HF.out g2
       have g3 := pw_cell_below HF.out g3
       have g4 := pw_cell_below HF.out g4
       have g5 := pw_cell_below HF.out g5
       refine AnyOrder.wpOp_go rfl (by rfl) ?_
       go_wp2_with fail
       exact ⟨l0, l1, l2, l3, l4, l5, l6, l7, l8, true, l10, l11, l12, l13, l14, l15, l16, l17, l18, true, true, l21, l22, l23, l24, rfl, rfl, HF⟩
      ·
       obtain rfl : l21 = false := (AnyOrder.mem_ready hi).2.1
       obtain rfl : l15 = true := AnyOrder.dep (q := 0) hi rfl rfl rfl
       obtain rfl : l20 = true := AnyOrder.dep (q := 1) hi rfl rfl rfl
       obtain rfl : l9 = true := AnyOrder.dep (q := 2) hi rfl rfl rfl
       clear hi
       simp only [sel_true, selv_true] at hK ⊢
       refine AnyOrder.wpOp_go rfl (by rfl) ?_
       go_wp2_with fail
       refine (redpencilref04_Less.calls _ _ _ _ b V (by rw [rv_less, Hb.out])).mono ?_
       rintro e V' ⟨rfl, hb⟩
       exact hK _ _ ⟨l0, l1, l2, l3, l4, l5, l6, l7, l8, true, l10, l11, l12, l13, l14, true, l16, l17, l18, l19, true, true, l22, l23, l24, rfl, rfl, ⟨below_more HF.out hb⟩⟩
      ·
       obtain rfl : l22 = false := (AnyOrder.mem_ready hi).2.1
       obtain rfl : l21 = true := AnyOrder.dep (q := 0) hi rfl rfl rfl
       obtain rfl : l9 = true := AnyOrder.dep (q := 1) hi rfl rfl rfl
       clear hi
       simp only [sel_true, selv_true] at hK ⊢
       refine AnyOrder.wpOp_go rfl (by rfl) ?_
       go_wp2_with fail
       exact ⟨l0, l1, l2, l3, l4, l5, l6, l7, l8, true, l10, l11, l12, l13, l14, l15, l16, l17, l18, l19, l20, true, true, l23, l24, rfl, rfl, HF⟩
      ·
       obtain rfl : l23 = false := (AnyOrder.mem_ready hi).2.1
       obtain rfl : l9 = true := AnyOrder.dep (q := 0) hi rfl rfl rfl
       obtain rfl : l22 = true := AnyOrder.dep (q := 1) hi rfl rfl rfl
       obtain rfl : l6 = true := AnyOrder.dep (q := 2) hi rfl rfl rfl
       clear hi
       simp only [sel_true, selv_true] at hK ⊢
       refine AnyOrder.wpOp_go rfl (by rfl) ?_
       go_wp2_with fail
       exact ⟨l0, l1, l2, l3, l4, l5, true, l7, l8, true, l10, l11, l12, l13, l14, l15, l16, l17, l18, l19, l20, l21, true, true, l24, rfl, rfl, HF⟩
      ·
       obtain rfl : l24 = false := (AnyOrder.mem_ready hi).2.1
       obtain rfl : l6 = true := AnyOrder.dep (q := 0) hi rfl rfl rfl
       obtain rfl : l23 = true := AnyOrder.dep (q := 1) hi rfl rfl rfl
       clear hi
       simp only [sel_true, selv_true] at hK ⊢
       refine AnyOrder.wpOp_go rfl (by rfl) ?_
       go_wp2_with fail
       exact ⟨l0, l1, l2, l3, l4, l5, true, l7, l8, l9, l10, l11, l12, l13, l14, l15, l16, l17, l18, l19, l20, l21, l22, true, true, rfl, rfl, HF⟩
     case last =>
      rintro L ac V ⟨l0, l1, l2, l3, l4, l5, l6, l7, l8, l9, l10, l11, l12, l13, l14, l15, l16, l17, l18, l19, l20, l21, l22, l23, l24, rfl, rfl, HF⟩ hr
      have hall := AnyOrder.all_listed rfl (by kernel_rfl) hr
      clear hr
      obtain rfl : l0 = true := hall 0 (by decide)
      obtain rfl : l1 = true := hall 1 (by decide)
      obtain rfl : l2 = true := hall 2 (by decide)
      obtain rfl : l3 = true := hall 3 (by decide)
      obtain rfl : l4 = true := hall 4 (by decide)
      obtain rfl : l5 = true := hall 5 (by decide)
      obtain rfl : l6 = true := hall 6 (by decide)
      obtain rfl : l7 = true := hall 7 (by decide)
      obtain rfl : l8 = true := hall 8 (by decide)
      obtain rfl : l9 = true := hall 9 (by decide)
      obtain rfl : l10 = true := hall 10 (by decide)
      obtain rfl : l11 = true := hall 11 (by decide)
      obtain rfl : l12 = true := hall 12 (by decide)
      obtain rfl : l13 = true := hall 13 (by decide)
      obtain rfl : l14 = true := hall 14 (by decide)
      obtain rfl : l15 = true := hall 15 (by decide)
      obtain rfl : l16 = true := hall 16 (by decide)
      obtain rfl : l17 = true := hall 17 (by decide)
      obtain rfl : l18 = true := hall 18 (by decide)
      obtain rfl : l19 = true := hall 19 (by decide)
      obtain rfl : l20 = true := hall 20 (by decide)
      obtain rfl : l21 = true := hall 21 (by decide)
      obtain rfl : l22 = true := hall 22 (by decide)
      obtain rfl : l23 = true := hall 23 (by decide)
      obtain rfl : l24 = true := hall 24 (by decide)
      clear hall
      simp only [sel_true, selv_true]
      have HB2 := Aside0.mk (below_more HB9.out HF.out)
      clear HF
      cases b with
      | true =>
       go_wp2
       go_roundw
       case rel => exact ⟨k + 1, by omega, by go_num, HST, HB2⟩
       case measure => simp [intOf] <;> omega
      | false =>
       have HEND : Aside0 (r = false) := ⟨by rw [← HRES.out]; exact storeOk_take HST.out⟩
       go_wp2
       go_ret
       exact ⟨by rw [HEND.out]; rfl, HB2.out⟩
  ·
   obtain rfl : k = n := by omega
   have hltb : decide ((k : Int) < (k : Int)) = false := decide_eq_false (by omega)
   have HEND : Aside0 (r = true) := ⟨by rw [← HRES.out, ← HOK.out, List.take_of_length_le (Nat.le_of_eq Hn.out)]⟩
   go_wp2
   go_ret
   exact ⟨by rw [HEND.out]; rfl, HB.out⟩
end
end Go.Proofs.YtjlpaagnajmogaaGreat.PWalk
end
section
namespace Go.Proofs.YtjlpaagnajmogaaGreat.PWalk
open Go.RowKit Go.Proofs.YtjlpaagnajmogaaGreatW.PrintWords Go.Proofs.YtjlpaagnajmogaaGreatW.PrintLast Go.Proofs.YtjlpaagnajmogaaGreatW.PrintMore
set_option linter.unusedVariables false
set_option linter.unusedSimpArgs false
attribute [local go_sem high] eqA35
def redpencilref10_Equal.l0 : Nat → List (S35) → List (S35) → Int → Option (Bool)
 | 0, _, _, _ => none
 | k + 1, x0, x1, x5 => if x5 < (x0.length : Int) then (if 0 ≤ x5 then (if x5 < (x1.length : Int) then (if ((!(((rd_T35 x0 x5).f0.f0) == ((rd_T35 x1 x5).f0.f0)) || (!(((rd_T35 x0 x5).f0.f1) == ((rd_T35 x1 x5).f0.f1)))) || ((!(((rd_T35 x0 x5).f1.f0) == ((rd_T35 x1 x5).f1.f0)) || (!(((rd_T35 x0 x5).f1.f1) == ((rd_T35 x1 x5).f1.f1)))) || (!(((rd_T35 x0 x5).f2) == ((rd_T35 x1 x5).f2)) || (!(((rd_T35 x0 x5).f3) == ((rd_T35 x1 x5).f3)))))) = true then (some false) else (redpencilref10_Equal.l0 k x0 x1 (wrap64 (x5 + 1)))) else (none)) else (none)) else (some true)
def redpencilref10_Equal.f (k : Nat) (l0 : List (S35)) (l1 : List (S35)) : Option (Bool) := if (l0.length : Int) = (l1.length : Int) then (redpencilref10_Equal.l0 k l0 l1 0) else (some false)
set_option maxHeartbeats 8000000 in
set_option maxRecDepth 100000 in
theorem redpencilref10_Equal.calls (k : Nat) (A0 : Option Addr) (c0 : Nat) (l0 : List (S35)) (A1 : Option Addr) (c1 : Nat) (l1 : List (S35)) (r : Bool) (w : World) (hr0 : Kd.C k35 w A0 l0.length l0) (hc0 : l0.length ≤ c0) (hr1 : Kd.C k35 w A1 l1.length l1) (hc1 : l1.length ≤ c1) (h : redpencilref10_Equal.f k l0 l1 = some r) :
  Calls Tryz.prog 18 #[.slice A0 l0.length c0, .slice A1 l1.length c1] w fun e w' => e = .returned (.bool r) ∧ Drawn0 w w' := by
 have hu35 := Tryz.underlying35
 have HR0 := Aside0.mk hr0
 have HC0 := Aside0.mk hc0
 clear hr0 hc0
 have HR1 := Aside0.mk hr1
 have HC1 := Aside0.mk hc1
 clear hr1 hc1
 have H : (if (l0.length : Int) = (l1.length : Int) then (redpencilref10_Equal.l0 k l0 l1 0) else (some false)) = some r := h
 clear h
 by_cases c3 : (l0.length : Int) = (l1.length : Int)
 ·
  rw [if_pos c3] at H
  have c3b0 : ((l0.length : Int) == (l1.length : Int)) = true := beq_iff_eq.mpr c3
  have c3b1 : ((l0.length : Int) != (l1.length : Int)) = false := bne_eq_false_iff_eq.mpr c3
  have c3b2 : (l0.length == l1.length) = true := by first | simpa using c3 | (simp at c3 ⊢; omega)
  clear c3
  have H' := Aside0.mk H
  clear H
  go_enter Tryz.func18, Tryz.ntmps18
  go_wp2
  repeat (go_quiet (fail); try go_wp2)
  go_loopg [5] k (fun kq v5 w' => ∃ (x5_1 : Int), v5 = .int .i64 x5_1 ∧ Aside0 (redpencilref10_Equal.l0 kq l0 l1 x5_1 = some r) ∧ Aside0 (kq ≤ k) ∧ Drawn0 w w')
  case atStart => exact ⟨(0), (by first | rfl | (simp; done) | (simp [*]; done)), H', ⟨Nat.le_refl _⟩, by repeat (first | exact Drawn0.refl _ | apply Drawn0.step)⟩
  case round =>
   clear H'
   try clear c1
   try clear p2
   try clear c3
   try clear c3b0
   try clear c3b1
   try clear c3b2
   obtain ⟨x5_1, rfl, HA, HK1, ⟨m1, rfl⟩⟩ := hrel
   cases gk with
   | zero => exact absurd HA.out (by simp [redpencilref10_Equal.l0])
   | succ k1 =>
    have H := HA.out
    clear HA
    simp only [redpencilref10_Equal.l0] at H
    by_cases c4 : x5_1 < (l0.length : Int)
    ·
     rw [if_pos c4] at H
     have c4b0 : decide (x5_1 < (l0.length : Int)) = true := decide_eq_true c4
     clear c4
     by_cases c5 : 0 ≤ x5_1
     ·
      rw [if_pos c5] at H
      have c5b0 : decide (0 ≤ x5_1) = true := decide_eq_true c5
      clear c5
      by_cases c6 : x5_1 < (l1.length : Int)
      ·
       rw [if_pos c6] at H
       have c6b0 : decide (x5_1 < (l1.length : Int)) = true := decide_eq_true c6
       clear c6
       by_cases c7 : ((!(((rd_T35 l0 x5_1).f0.f0) == ((rd_T35 l1 x5_1).f0.f0)) || (!(((rd_T35 l0 x5_1).f0.f1) == ((rd_T35 l1 x5_1).f0.f1)))) || ((!(((rd_T35 l0 x5_1).f1.f0) == ((rd_T35 l1 x5_1).f1.f0)) || (!(((rd_T35 l0 x5_1).f1.f1) == ((rd_T35 l1 x5_1).f1.f1)))) || (!(((rd_T35 l0 x5_1).f2) == ((rd_T35 l1 x5_1).f2)) || (!(((rd_T35 l0 x5_1).f3) == ((rd_T35 l1 x5_1).f3)))))) = true
       ·
        rw [if_pos c7] at H
        have c7b0 : ((!(((rd_T35 l0 x5_1).f0.f0) == ((rd_T35 l1 x5_1).f0.f0)) || (!(((rd_T35 l0 x5_1).f0.f1) == ((rd_T35 l1 x5_1).f0.f1)))) || ((!(((rd_T35 l0 x5_1).f1.f0) == ((rd_T35 l1 x5_1).f1.f0)) || (!(((rd_T35 l0 x5_1).f1.f1) == ((rd_T35 l1 x5_1).f1.f1)))) || (!(((rd_T35 l0 x5_1).f2) == ((rd_T35 l1 x5_1).f2)) || (!(((rd_T35 l0 x5_1).f3) == ((rd_T35 l1 x5_1).f3)))))) = true := c7
        clear c7
        obtain rfl := Option.some.inj H
        have p205 : 0 ≤ (x5_1 : Int) := of_decide_eq_true (by first | (with_reducible assumption) | assumption)
        have q205 : x5_1 < (l0.length : Int) := of_decide_eq_true (by first | (with_reducible assumption) | assumption)
        obtain ⟨ad205, e205, hx205_0, hx205_1, hx205_2, hx205_3, hx205_4, hx205_5⟩ := at_T35 HR0.out x5_1 p205 q205
        cases e205
        replace p205 := eq_true p205
        replace q205 := eq_true q205
        have p206 : 0 ≤ (x5_1 : Int) := of_decide_eq_true (by first | (with_reducible assumption) | assumption)
        have q206 : x5_1 < (l1.length : Int) := of_decide_eq_true (by first | (with_reducible assumption) | assumption)
        obtain ⟨ad206, e206, hx206_0, hx206_1, hx206_2, hx206_3, hx206_4, hx206_5⟩ := at_T35 HR1.out x5_1 p206 q206
        cases e206
        replace p206 := eq_true p206
        replace q206 := eq_true q206
        go_wp2
        repeat (go_quiet (fail); try go_wp2)
        go_ret
        exact ⟨by first | rfl | (simp; done) | (simp [*]; done), by repeat (first | exact Drawn0.refl _ | apply Drawn0.step)⟩
       ·
        rw [if_neg c7] at H
        have c7b0 : ((!(((rd_T35 l0 x5_1).f0.f0) == ((rd_T35 l1 x5_1).f0.f0)) || (!(((rd_T35 l0 x5_1).f0.f1) == ((rd_T35 l1 x5_1).f0.f1)))) || ((!(((rd_T35 l0 x5_1).f1.f0) == ((rd_T35 l1 x5_1).f1.f0)) || (!(((rd_T35 l0 x5_1).f1.f1) == ((rd_T35 l1 x5_1).f1.f1)))) || (!(((rd_T35 l0 x5_1).f2) == ((rd_T35 l1 x5_1).f2)) || (!(((rd_T35 l0 x5_1).f3) == ((rd_T35 l1 x5_1).f3)))))) = false := by simpa using c7
        clear c7
        have H' := Aside0.mk H
        clear H
        have p205 : 0 ≤ (x5_1 : Int) := of_decide_eq_true (by first | (with_reducible assumption) | assumption)
        have q205 : x5_1 < (l0.length : Int) := of_decide_eq_true (by first | (with_reducible assumption) | assumption)
        obtain ⟨ad205, e205, hx205_0, hx205_1, hx205_2, hx205_3, hx205_4, hx205_5⟩ := at_T35 HR0.out x5_1 p205 q205
        cases e205
        replace p205 := eq_true p205
        replace q205 := eq_true q205
        have p206 : 0 ≤ (x5_1 : Int) := of_decide_eq_true (by first | (with_reducible assumption) | assumption)
        have q206 : x5_1 < (l1.length : Int) := of_decide_eq_true (by first | (with_reducible assumption) | assumption)
        obtain ⟨ad206, e206, hx206_0, hx206_1, hx206_2, hx206_3, hx206_4, hx206_5⟩ := at_T35 HR1.out x5_1 p206 q206
        cases e206
        replace p206 := eq_true p206
        replace q206 := eq_true q206
        go_wp2
        repeat (go_quiet (fail); try go_wp2)
        go_roundg k1
        case measure => have := HK1.out; omega
        case rel => exact ⟨(wrap64 (x5_1 + 1)), (by first | rfl | (simp; done) | (simp [*]; done)), H', ⟨by have := HK1.out; omega⟩, by repeat (first | exact Drawn0.refl _ | apply Drawn0.step)⟩
      ·
       rw [if_neg c6] at H
       exact absurd H (by simp)
     ·
      rw [if_neg c5] at H
      exact absurd H (by simp)
    ·
     rw [if_neg c4] at H
     have c4b0 : decide (x5_1 < (l0.length : Int)) = false := decide_eq_false c4
     clear c4
     obtain rfl := Option.some.inj H
     go_wp2
     repeat (go_quiet (fail); try go_wp2)
     go_ret
     exact ⟨by first | rfl | (simp; done) | (simp [*]; done), by repeat (first | exact Drawn0.refl _ | apply Drawn0.step)⟩
 ·
  rw [if_neg c3] at H
  have c3b0 : ((l0.length : Int) == (l1.length : Int)) = false := beq_eq_false_iff_ne.mpr c3
  have c3b1 : ((l0.length : Int) != (l1.length : Int)) = true := bne_iff_ne.mpr c3
  have c3b2 : (l0.length == l1.length) = false := by first | simpa using c3 | (simp at c3 ⊢; omega)
  obtain rfl := Option.some.inj H
  go_enter Tryz.func18, Tryz.ntmps18
  go_wp2
  repeat (go_quiet (fail); try go_wp2)
  go_ret
  exact ⟨by first | rfl | (simp; done) | (simp [*]; done), by repeat (first | exact Drawn0.refl _ | apply Drawn0.step)⟩
end Go.Proofs.YtjlpaagnajmogaaGreat.PWalk
end
section
namespace Go.Proofs.YtjlpaagnajmogaaGreat.PWalk
open Go.RowKit Go.Proofs.YtjlpaagnajmogaaGreatW.PrintWords Go.Proofs.YtjlpaagnajmogaaGreatW.PrintLast Go.Proofs.YtjlpaagnajmogaaGreatW.PrintMore
set_option linter.unusedVariables false
set_option linter.unusedSimpArgs false
attribute [local go_sem high] eqA24
def redpencilref10_Find.l0 : Nat → List (S35) → Int → Int → Int → Option (Int)
 | 0, _, _, _, _ => none
 | k + 1, x0, x5, x231000, x231001 => if x5 < (x0.length : Int) then (if 0 ≤ x5 then (if (((rd_T35 x0 x5).f0.f0) == x231000 && (((rd_T35 x0 x5).f0.f1) == x231001)) = true then (some x5) else (redpencilref10_Find.l0 k x0 (wrap64 (x5 + 1)) x231000 x231001)) else (none)) else (some (-1))
def redpencilref10_Find.f (k : Nat) (l0 : List (S35)) (a1_0 : Int) (a1_1 : Int) : Option (Int) := redpencilref10_Find.l0 k l0 0 a1_0 a1_1
set_option maxHeartbeats 8000000 in
set_option maxRecDepth 100000 in
theorem redpencilref10_Find.calls (k : Nat) (A0 : Option Addr) (c0 : Nat) (l0 : List (S35)) (a1_0 : Int) (a1_1 : Int) (r : Int) (w : World) (hr0 : Kd.C k35 w A0 l0.length l0) (hc0 : l0.length ≤ c0) (h : redpencilref10_Find.f k l0 a1_0 a1_1 = some r) :
  Calls Tryz.prog 59 #[.slice A0 l0.length c0, .agg #[.int .i64 a1_0, .int .i64 a1_1]] w fun e w' => e = .returned (.int .i64 r) ∧ Below w.heap.size w w' := by
 have hu24 := Tryz.underlying24
 have HR0 := Aside0.mk hr0
 have HC0 := Aside0.mk hc0
 clear hr0 hc0
 have HB := Aside0.mk (Below.refl w.heap.size w)
 have H : (redpencilref10_Find.l0 k l0 0 a1_0 a1_1) = some r := h
 clear h
 have H' := Aside0.mk H
 clear H
 go_enter Tryz.func59, Tryz.ntmps59
 go_wp2_with (first | ((with_reducible refine gate_dst (N := 3) rfl ?_); refine box_event ?hg (N := 3) ?hd (cs := #[.int .i64 a1_0, .int .i64 a1_1]) (t := 24) ?hr ?_; (case hd => rfl); (case hg => rfl); (case hr => first | (go_simp; done) | (go_simp; rfl)); intro gb230 hg w3 hbox hb; have n0_ := Aside0.mk (below_step (by repeat (first | (with_reducible first | exact HB.out | apply below_alloc | apply pw_below_drewN | apply below_drew1) | exact HB.out)) hb); have n1_ := Aside0.mk (hbox); have n2_ := Aside0.mk ((by rw [hg]; exact (below_size (by repeat (first | (with_reducible first | exact HB.out | apply below_alloc | apply pw_below_drewN | apply below_drew1) | exact HB.out))) : w.heap.size ≤ gb230)); have n3_ := Aside0.mk ((by rw [hg]; exact (below_size (by repeat (first | (with_reducible first | exact HB.out | apply below_alloc | apply pw_below_drewN | apply below_drew1) | exact HB.out))) : w.heap.size ≤ gb230)); clear HB; have HB := n0_; have BK230 := n1_; have GW230 := n2_; have GE230 := n3_; clear n0_ n1_ n2_ n3_; clear hb hbox hg))
 repeat (go_quiet (first | ((with_reducible refine gate_dst (N := 3) rfl ?_); refine box_event ?hg (N := 3) ?hd (cs := #[.int .i64 a1_0, .int .i64 a1_1]) (t := 24) ?hr ?_; (case hd => rfl); (case hg => rfl); (case hr => first | (go_simp; done) | (go_simp; rfl)); intro gb230 hg w3 hbox hb; have n0_ := Aside0.mk (below_step (by repeat (first | (with_reducible first | exact HB.out | apply below_alloc | apply pw_below_drewN | apply below_drew1) | exact HB.out)) hb); have n1_ := Aside0.mk (hbox); have n2_ := Aside0.mk ((by rw [hg]; exact (below_size (by repeat (first | (with_reducible first | exact HB.out | apply below_alloc | apply pw_below_drewN | apply below_drew1) | exact HB.out))) : w.heap.size ≤ gb230)); have n3_ := Aside0.mk ((by rw [hg]; exact (below_size (by repeat (first | (with_reducible first | exact HB.out | apply below_alloc | apply pw_below_drewN | apply below_drew1) | exact HB.out))) : w.heap.size ≤ gb230)); clear HB; have HB := n0_; have BK230 := n1_; have GW230 := n2_; have GE230 := n3_; clear n0_ n1_ n2_ n3_; clear hb hbox hg)); try go_wp2_with (first | ((with_reducible refine gate_dst (N := 3) rfl ?_); refine box_event ?hg (N := 3) ?hd (cs := #[.int .i64 a1_0, .int .i64 a1_1]) (t := 24) ?hr ?_; (case hd => rfl); (case hg => rfl); (case hr => first | (go_simp; done) | (go_simp; rfl)); intro gb230 hg w3 hbox hb; have n0_ := Aside0.mk (below_step (by repeat (first | (with_reducible first | exact HB.out | apply below_alloc | apply pw_below_drewN | apply below_drew1) | exact HB.out)) hb); have n1_ := Aside0.mk (hbox); have n2_ := Aside0.mk ((by rw [hg]; exact (below_size (by repeat (first | (with_reducible first | exact HB.out | apply below_alloc | apply pw_below_drewN | apply below_drew1) | exact HB.out))) : w.heap.size ≤ gb230)); have n3_ := Aside0.mk ((by rw [hg]; exact (below_size (by repeat (first | (with_reducible first | exact HB.out | apply below_alloc | apply pw_below_drewN | apply below_drew1) | exact HB.out))) : w.heap.size ≤ gb230)); clear HB; have HB := n0_; have BK230 := n1_; have GW230 := n2_; have GE230 := n3_; clear n0_ n1_ n2_ n3_; clear hb hbox hg)))
 go_loopg [5] k (fun kq v5 w' => ∃ (x5_1 : Int), v5 = .int .i64 x5_1 ∧ Aside0 (redpencilref10_Find.l0 kq l0 x5_1 a1_0 a1_1 = some r) ∧ Aside0 (kq ≤ k) ∧ Aside0 (w'.heap[gb230]? = some (.cells #[.int .i64 a1_0, .int .i64 a1_1] 24 (0, 0))) ∧ Aside0 (Below w.heap.size w w'))
 case atStart => exact ⟨(0), (by first | rfl | (simp; done) | (simp [*]; done)), H', ⟨Nat.le_refl _⟩, ⟨by (with_reducible repeat (first | refine blk_drewN ?_ _ | refine blk_drew ?_ | refine blk_alloc ?_ _)); exact BK230.out⟩, ⟨by repeat (first | (with_reducible first | exact HB.out | apply below_alloc | apply pw_below_drewN | apply below_drew1 | refine below_set ?_ GE230.out) | exact HB.out)⟩⟩
 case round =>
  clear H'
  try clear p2
  obtain ⟨x5_1, rfl, HA, HK1, BK230, HB⟩ := hrel
  cases gk with
  | zero => exact absurd HA.out (by simp [redpencilref10_Find.l0])
  | succ k1 =>
   have H := HA.out
   clear HA
   simp only [redpencilref10_Find.l0] at H
   by_cases c4 : x5_1 < (l0.length : Int)
   ·
    rw [if_pos c4] at H
    have c4b0 : decide (x5_1 < (l0.length : Int)) = true := decide_eq_true c4
    clear c4
    by_cases c5 : 0 ≤ x5_1
    ·
     rw [if_pos c5] at H
     have c5b0 : decide (0 ≤ x5_1) = true := decide_eq_true c5
     clear c5
     by_cases c6 : (((rd_T35 l0 x5_1).f0.f0) == a1_0 && (((rd_T35 l0 x5_1).f0.f1) == a1_1)) = true
     ·
      rw [if_pos c6] at H
      have c6b0 : (((rd_T35 l0 x5_1).f0.f0) == a1_0 && (((rd_T35 l0 x5_1).f0.f1) == a1_1)) = true := c6
      (try (have c6b1 : decide (((rd_T35 l0 x5_1).f0.f0) = a1_0 && (((rd_T35 l0 x5_1).f0.f1) == a1_1)) = true := by simpa using c6))
      (try (have c6b2 : (((rd_T35 l0 x5_1).f0.f0) == a1_0 && (((rd_T35 l0 x5_1).f0.f1) == a1_1)) = true := by simpa using c6))
      clear c6
      obtain rfl := Option.some.inj H
      have p231 : 0 ≤ (x5_1 : Int) := of_decide_eq_true (by first | (with_reducible assumption) | assumption)
      have q231 : x5_1 < (l0.length : Int) := of_decide_eq_true (by first | (with_reducible assumption) | assumption)
      obtain ⟨ad231, e231, hx231_0, hx231_1, hx231_2, hx231_3, hx231_4, hx231_5⟩ := at_T35 HR0.out x5_1 p231 q231
      cases e231
      replace hx231_0 := (HB.out.cell (World.block_lt_of_cell? w _ hx231_0)).trans hx231_0
      replace hx231_1 := (HB.out.cell (World.block_lt_of_cell? w _ hx231_1)).trans hx231_1
      replace hx231_2 := (HB.out.cell (World.block_lt_of_cell? w _ hx231_2)).trans hx231_2
      replace hx231_3 := (HB.out.cell (World.block_lt_of_cell? w _ hx231_3)).trans hx231_3
      replace hx231_4 := (HB.out.cell (World.block_lt_of_cell? w _ hx231_4)).trans hx231_4
      replace hx231_5 := (HB.out.cell (World.block_lt_of_cell? w _ hx231_5)).trans hx231_5
      replace p231 := eq_true p231
      replace q231 := eq_true q231
      have hcz7_0 : wr.cell? ⟨gb230, 0, none⟩ = some (.int .i64 a1_0) := (blk_cell BK230.out 0).trans rfl
      have hcz7_1 : wr.cell? ⟨gb230, 1, none⟩ = some (.int .i64 a1_1) := (blk_cell BK230.out 1).trans rfl
      have hfz7_0 := blk_frozen BK230.out 0
      have hfz7_1 := blk_frozen BK230.out 1
      go_wp2
      repeat (go_quiet (fail); try go_wp2)
      go_ret
      exact ⟨by first | rfl | (simp [errW_none, errW_some] <;> rfl) | (simp [*, errW_none, errW_some] <;> rfl), by repeat (first | (with_reducible first | exact HB.out | apply below_alloc | apply pw_below_drewN | apply below_drew1 | refine below_set ?_ GE230.out) | exact HB.out)⟩
     ·
      rw [if_neg c6] at H
      have c6b0 : (((rd_T35 l0 x5_1).f0.f0) == a1_0 && (((rd_T35 l0 x5_1).f0.f1) == a1_1)) = false := by simpa using c6
      (try (have c6b1 : decide (((rd_T35 l0 x5_1).f0.f0) = a1_0 && (((rd_T35 l0 x5_1).f0.f1) == a1_1)) = false := by simpa using c6))
      (try (have c6b2 : (((rd_T35 l0 x5_1).f0.f0) == a1_0 && (((rd_T35 l0 x5_1).f0.f1) == a1_1)) = false := by simpa using c6))
      (try (have c6b3 : ¬ (((rd_T35 l0 x5_1).f0.f0) = a1_0 && (((rd_T35 l0 x5_1).f0.f1) == a1_1)) := by simpa using c6))
      clear c6
      have H' := Aside0.mk H
      clear H
      have p231 : 0 ≤ (x5_1 : Int) := of_decide_eq_true (by first | (with_reducible assumption) | assumption)
      have q231 : x5_1 < (l0.length : Int) := of_decide_eq_true (by first | (with_reducible assumption) | assumption)
      obtain ⟨ad231, e231, hx231_0, hx231_1, hx231_2, hx231_3, hx231_4, hx231_5⟩ := at_T35 HR0.out x5_1 p231 q231
      cases e231
      replace hx231_0 := (HB.out.cell (World.block_lt_of_cell? w _ hx231_0)).trans hx231_0
      replace hx231_1 := (HB.out.cell (World.block_lt_of_cell? w _ hx231_1)).trans hx231_1
      replace hx231_2 := (HB.out.cell (World.block_lt_of_cell? w _ hx231_2)).trans hx231_2
      replace hx231_3 := (HB.out.cell (World.block_lt_of_cell? w _ hx231_3)).trans hx231_3
      replace hx231_4 := (HB.out.cell (World.block_lt_of_cell? w _ hx231_4)).trans hx231_4
      replace hx231_5 := (HB.out.cell (World.block_lt_of_cell? w _ hx231_5)).trans hx231_5
      replace p231 := eq_true p231
      replace q231 := eq_true q231
      have hcz8_0 : wr.cell? ⟨gb230, 0, none⟩ = some (.int .i64 a1_0) := (blk_cell BK230.out 0).trans rfl
      have hcz8_1 : wr.cell? ⟨gb230, 1, none⟩ = some (.int .i64 a1_1) := (blk_cell BK230.out 1).trans rfl
      have hfz8_0 := blk_frozen BK230.out 0
      have hfz8_1 := blk_frozen BK230.out 1
      go_wp2
      repeat (go_quiet (fail); try go_wp2)
      go_roundg k1
      case measure => have := HK1.out; omega
      case rel => exact ⟨(wrap64 (x5_1 + 1)), (by first | rfl | (simp; done) | (simp [*]; done)), H', ⟨by have := HK1.out; omega⟩, ⟨by (with_reducible repeat (first | refine blk_drewN ?_ _ | refine blk_drew ?_ | refine blk_alloc ?_ _)); exact BK230.out⟩, ⟨by repeat (first | (with_reducible first | exact HB.out | apply below_alloc | apply pw_below_drewN | apply below_drew1 | refine below_set ?_ GE230.out) | exact HB.out)⟩⟩
    ·
     rw [if_neg c5] at H
     exact absurd H (by simp)
   ·
    rw [if_neg c4] at H
    have c4b0 : decide (x5_1 < (l0.length : Int)) = false := decide_eq_false c4
    clear c4
    obtain rfl := Option.some.inj H
    go_wp2
    repeat (go_quiet (fail); try go_wp2)
    go_ret
    exact ⟨by first | rfl | (simp [errW_none, errW_some] <;> rfl) | (simp [*, errW_none, errW_some] <;> rfl), by repeat (first | (with_reducible first | exact HB.out | apply below_alloc | apply pw_below_drewN | apply below_drew1 | refine below_set ?_ GE230.out) | exact HB.out)⟩
end Go.Proofs.YtjlpaagnajmogaaGreat.PWalk
end
section
namespace Go.Proofs.YtjlpaagnajmogaaGreat.PWalk
end Go.Proofs.YtjlpaagnajmogaaGreat.PWalk
end
section
namespace Go.Proofs.YtjlpaagnajmogaaGreat.PWalk
open Go.RowKit Go.Proofs.YtjlpaagnajmogaaGreatW.PrintWords Go.Proofs.YtjlpaagnajmogaaGreatW.PrintLast Go.Proofs.YtjlpaagnajmogaaGreatW.PrintMore
set_option linter.unusedVariables false
set_option linter.unusedSimpArgs false
open Go.Shelf
attribute [local go_sem] Oper.semAt_some
/-- A rune that the machine can hold. -/
def runeIn (r : Int) : Prop := -9223372036854775808 ≤ r ∧ r ≤ 9223372036854775807
theorem refDot_is (a b : Int) : redpencilref04_Valid.f a b = some (dotOk ⟨a, b⟩) := by
 unfold redpencilref04_Valid.f dotOk
 by_cases h0 : a > 0 <;> by_cases h1 : a ≤ 64 <;> by_cases h2 : b > 0 <;> by_cases h3 : b ≤ 4294967295 <;> simp [h0, h1, h2, h3] <;> omega
theorem rdN {l : List Node} {i : Nat} (h : i < l.length) : rd_T35 l (i : Int) = l[i] := by simp [rd_T35, h]
theorem wrap_succ {i n : Nat} (h : i < n) (hn : n ≤ 1000000) : wrap64 ((i : Int) + 1) = ((i + 1 : Nat) : Int) := by unfold wrap64; omega
theorem refFind_from (l : List Node) (hl : l.length ≤ 1000000) (d : Dot) : ∀ (q k i : Nat), i + q = l.length → q < k → redpencilref10_Find.l0 k l (i : Int) d.f0 d.f1 = some (match idxN (l.drop i) i d with | some j => (j : Int) | none => -1) := by
 intro q
 induction q with
 | zero =>
  intro k i hd hk
  obtain ⟨k, rfl⟩ : ∃ m, k = m + 1 := ⟨k - 1, by omega⟩
  simp only [redpencilref10_Find.l0]
  rw [if_neg (by omega), List.drop_of_length_le (by omega)]; rfl
 | succ q ih =>
  intro k i hd hk
  obtain ⟨k, rfl⟩ : ∃ m, k = m + 1 := ⟨k - 1, by omega⟩
  simp only [redpencilref10_Find.l0]
  have hi : i < l.length := by omega
  rw [if_pos (by omega), if_pos (by omega), rdN hi, wrap_succ hi hl, List.drop_eq_getElem_cons hi, idxN]
  have e : ((l[i].f0.f0 == d.f0 && (l[i].f0.f1 == d.f1)) = true) ↔ d = l[i].f0 := by rw [Dot.ext_iff']; simp; omega
  by_cases h : d = l[i].f0
  ·
   rw [if_pos (e.2 h), if_pos h]
  ·
   rw [if_neg (fun hh => h (e.1 hh)), if_neg h]
   exact ih k (i + 1) (by omega) (by omega)
theorem refFind_is (l : List Node) (hl : l.length ≤ 1000000) (d : Dot) (k : Nat) (hk : l.length < k) : redpencilref10_Find.f k l d.f0 d.f1 = some (match idxN l 0 d with | some j => (j : Int) | none => -1) :=
 refFind_from l hl d l.length k 0 (by omega) hk
theorem refEqual_from (l m : List Node) (hlm : l.length = m.length) (hl : l.length ≤ 1000000) : ∀ (q k i : Nat), i + q = l.length → q < k → redpencilref10_Equal.l0 k l m (i : Int) = some (decide (l.drop i = m.drop i)) := by
 intro q
 induction q with
 | zero =>
  intro k i hd hk
  obtain ⟨k, rfl⟩ : ∃ m, k = m + 1 := ⟨k - 1, by omega⟩
  simp only [redpencilref10_Equal.l0]
  rw [if_neg (by omega), List.drop_of_length_le (by omega), List.drop_of_length_le (by omega)]; simp
 | succ q ih =>
  intro k i hd hk
  obtain ⟨k, rfl⟩ : ∃ m, k = m + 1 := ⟨k - 1, by omega⟩
  simp only [redpencilref10_Equal.l0]
  have hi : i < l.length := by omega
  have hi2 : i < m.length := by omega
  rw [if_pos (by omega), if_pos (by omega), if_pos (by omega), rdN hi, rdN hi2, wrap_succ hi hl, ih k (i + 1) (by omega) (by omega), List.drop_eq_getElem_cons hi, List.drop_eq_getElem_cons hi2]
  by_cases e : l[i] = m[i]
  ·
   rw [if_neg (by simp [e])]
   rw [e]
   simp only [List.cons.injEq, true_and]
  ·
   have hne : ¬ (l[i] :: l.drop (i + 1) = m[i] :: m.drop (i + 1)) := fun h => e (List.cons.inj h).1
   rw [if_pos, decide_eq_false hne]
   rw [Node.ext_iff', Dot.ext_iff', Dot.ext_iff'] at e
   simp
   by_cases a1 : l[i].f0.f0 = m[i].f0.f0 <;> by_cases a2 : l[i].f0.f1 = m[i].f0.f1 <;> by_cases a3 : l[i].f1.f0 = m[i].f1.f0 <;> by_cases a4 : l[i].f1.f1 = m[i].f1.f1 <;> by_cases a5 : l[i].f2 = m[i].f2 <;> simp_all
theorem refEqual_is (l m : List Node) (hl : l.length ≤ 1000000) (k : Nat) (hk : l.length < k) : redpencilref10_Equal.f k l m = some (decide (l = m)) := by
 unfold redpencilref10_Equal.f
 by_cases h : l.length = m.length
 ·
  rw [if_pos (by omega)]
  have := refEqual_from l m h hl l.length k 0 (by omega) hk
  simpa using this
 ·
  rw [if_neg (by omega)]
  have : ¬ l = m := fun e => h (by rw [e])
  simp [this]
theorem refValid_is (l : List Node) (hl : l.length ≤ 1000000) (hw : ∀ x ∈ l, runeIn x.f3) (k : Nat) (hk : l.length < k) : redpencilref10_Valid.f k l = some (storeOk l) := by
 unfold redpencilref10_Valid.f
 rw [if_pos ⟨hl, List.all_eq_true.2 fun x hx => decide_eq_true (hw x hx)⟩]
theorem dot_beq (a b : Dot) : (a.f0 == b.f0 && (a.f1 == b.f1)) = decide (a = b) := by
 by_cases h : a = b
 ·
  subst h; simp
 ·
  rw [decide_eq_false h, Bool.eq_false_iff]
  intro hh
  simp only [Bool.and_eq_true, beq_iff_eq] at hh
  exact h (Dot.ext_iff'.2 hh)
end Go.Proofs.YtjlpaagnajmogaaGreat.PWalk
end
section
namespace Go.Proofs.YtjlpaagnajmogaaGreat.PWalk
end Go.Proofs.YtjlpaagnajmogaaGreat.PWalk
end
section
namespace Go.Proofs.YtjlpaagnajmogaaGreat.PWalk
end Go.Proofs.YtjlpaagnajmogaaGreat.PWalk
end
section
namespace Go.Proofs.YtjlpaagnajmogaaGreat.PWalk
open Go.RowKit Go.Proofs.YtjlpaagnajmogaaGreatW.PrintWords Go.Proofs.YtjlpaagnajmogaaGreatW.PrintLast Go.Proofs.YtjlpaagnajmogaaGreatW.PrintMore
set_option linter.unusedVariables false
set_option linter.unusedSimpArgs false
open Go.Shelf
attribute [local go_sem] Oper.semAt_some
section
variable {ops : Array Oper} {rest : List Oper} {o : Oper} {a : Act} {Q : Exit → Act → World → Prop}
end
def nodeZ : Node := ⟨⟨0, 0⟩, ⟨0, 0⟩, 0, 0⟩
end Go.Proofs.YtjlpaagnajmogaaGreat.PWalk
end
section
namespace Go.Proofs.YtjlpaagnajmogaaGreat.PWalk
open Go.RowKit Go.Proofs.YtjlpaagnajmogaaGreatW.PrintWords Go.Proofs.YtjlpaagnajmogaaGreatW.PrintLast Go.Proofs.YtjlpaagnajmogaaGreatW.PrintMore
set_option linter.unusedVariables false
set_option linter.unusedSimpArgs false
open Go.Shelf
attribute [local go_sem] Oper.semAt_some
theorem run_append_nilsrc (base : Nat) (ty : TypeId) (u : Value) (xs : List Node) (c : Nat) (w : World) (hu : RN w base u xs) :
  (Builtin.append_ #[22, 22] ty #[u, .slice none 0 c]).run Tryz.prog w = .ok u w := by
 obtain ⟨i, hi, hz1, hz2, hz3⟩ := info_get infoN
 rcases (cells_of_R hu).2 with ⟨rfl, h0⟩ | ⟨g, cap, cur, rfl, _, _, hnc, _⟩
 ·
  simp [Builtin.append_, run_underlying Tryz.underlying22, sizeOf, typeInfo, hi, Builtin.lenOf, Builtin.firstCells]
 ·
  simp [Builtin.append_, run_underlying Tryz.underlying22, sizeOf, typeInfo, hi, Builtin.lenOf, Builtin.firstCells, hnc, storeCells]
/-- 'append(u, s...)', s any nodes. -/
theorem run_append_nodes (base : Nat) (ty : TypeId) (u : Value) (xs ys : List Node) (A : Option Addr) (c : Nat) (w : World) (hu : RN w base u xs) (hs : Kd.C k35 w A ys.length ys) (hb : base ≤ w.heap.size) (hl : xs.length + ys.length ≤ 1000001) :
  ∃ u' w', (Builtin.append_ #[22, 22] ty #[u, .slice A ys.length c]).run Tryz.prog w = .ok u' w' ∧ RN w' base u' (xs ++ ys) ∧ w.grownBy w' u.ownBlock ∧ (u'.ownBlock = u.ownBlock ∨ u'.ownBlock = some w.heap.size) := by
 cases A with
 | none =>
  have hz : ys = [] := by
   cases ys with
   | nil => rfl
   | cons x l => obtain ⟨ad, e, _⟩ := C_cells hs (by simp); cases e
  subst hz
  exact ⟨u, w, run_append_nilsrc base ty u xs c w hu, by rwa [List.append_nil], ⟨rfl, rfl, rfl, Nat.le_refl _, fun _ _ _ => rfl⟩, .inl rfl⟩
 | some ad =>
  obtain ⟨i, hi, hz1, hz2, hz3⟩ := info_get infoN
  have hcells : ∀ j v, (cellsOf ys)[j]? = some v → w.cell? (ad.add j) = some v := by
   intro j v hv
   by_cases hp : 0 < ys.length
   ·
    obtain ⟨ad', e, h⟩ := C_cells hs hp
    cases e; exact h j v hv
   ·
    have : ys = [] := by cases ys <;> simp_all
    subst this; simp [cellsOf] at hv
  obtain ⟨v', w', h1, h2, h3, _, h4⟩ := run_append_own_at (P := Tryz.prog) w base 22 ty 35 i _ 6 48 Tryz.underlying22 hi hz1 hz2 hz3 rfl (by decide) u xs.length (cellsOf xs) (cells_of_R hu) ad ys.length c (cellsOf ys) (cellsOf_length ys)
   hcells (one_cells ys) (by simp only [maxLen]; omega) (by omega) hb
  refine ⟨v', w', h1, R_of_cells ?_ (fun _ _ => trivial), h3, h4⟩
  rw [cellsOf_append, List.length_append]
  exact h2
set_option maxRecDepth 100000 in
theorem GrowNil.calls (n : Nat) (w : World) (hn : n ≤ 1000001) :
  Calls Tryz.prog 134 #[.slice none 0 0, .int .i64 n] w fun e w' => ∃ v : Value, e = .returned v ∧ RN w' w.heap.size v [] ∧ Below w.heap.size w w' := by
 obtain ⟨i0, hi0, hz0, hz1, hz2⟩ := info_parts infoN
 by_cases h0 : n = 0
 ·
  subst h0
  go_enter Tryz.func134, Tryz.ntmps134
  go_wp2
  go_ret
  exact ⟨_, rfl, Kd.R_nil _ _ _ _ _, Below.refl _ _⟩
 ·
  obtain ⟨G, hG⟩ : ∃ G, G = grownCap w n 0 35 := ⟨_, rfl⟩
  have hG63 : G ≤ 9223372036854775807 := by
   have := grownCap_le_maxLen w n 0 35 (by unfold maxLen; omega)
   rw [← hG] at this
   unfold maxLen at this
   omega
  have hGn : n ≤ G := by rw [hG]; exact grownCap_ge w _ _ _
  obtain ⟨cs, Hcs⟩ : ∃ cs : Array Value, Aside0 (cs = Builtin.zeroCells (Value.agg #[(.int .i64 0), (.int .i64 0), (.int .i64 0), (.int .i64 0), (.int .i64 0), (.int .i32 0)]).cells n ++ Builtin.zeroCells (Value.agg #[(.int .i64 0), (.int .i64 0), (.int .i64 0), (.int .i64 0), (.int .i64 0), (.int .i32 0)]).cells (G - n)) := ⟨_, ⟨rfl⟩⟩
  have HS : Aside0 (cs.size = G * 6) := ⟨by
   rw [Hcs.out, Array.size_append, size_zeroCells, size_zeroCells, show (Value.agg #[(.int .i64 0), (.int .i64 0), (.int .i64 0), (.int .i64 0), (.int .i64 0), (.int .i32 0)]).cells.size = 6 from rfl, ← Nat.add_mul]
   congr 1; omega⟩
  have h1 : ¬ ((n : Int) < 0) := by omega
  have h3 : wrap64 ((n : Int) - 0) = (n : Int) := by unfold wrap64; omega
  have h4 : (n : Int) > 0 := by omega
  have hrz : ∀ ty, (Builtin.append_ #[22, 3] ty #[.slice none 0 0, .int .i64 n]).run Tryz.prog w = .ok (.slice (some ⟨w.heap.size, 0, none⟩) n G) (w.drew.alloc (.cells cs 35)) := fun ty => by
   have := Lib.run_append_nil_zeros (P := Tryz.prog) w 22 3 ty 35 i0 _ .i64 .i64 Tryz.underlying22 Tryz.underlying3 hi0 hz0 n (by omega) (by omega) (by omega) (by rw [hz2]; omega)
   rw [← hG, ← Hcs.out] at this
   exact this
  clear hG
  go_enter Tryz.func134, Tryz.ntmps134
  go_wp2_with (at_builtin; refine wpList_append_eq2 rfl (.tmp 20) (.tmp 21) 22 3 rfl rfl rfl (hrz _) ?_)
  go_ret
  exact ⟨_, rfl, R_of_row rfl (by simp) (blk_new _ _) (Nat.zero_le _) hG63 HS.out rfl, below_alloc (Below.refl _ _).drew _⟩
set_option maxHeartbeats 1000000 in
set_option maxRecDepth 100000 in
theorem Concat2.calls (A0 : Option Addr) (c0 : Nat) (l0 : List Node) (A1 : Option Addr) (c1 : Nat) (l1 : List Node) (g : Nat) (w : World) (hg : w.heap[g]? = some (.cells #[.slice A0 l0.length c0, .slice A1 l1.length c1] 22 (0, 0)))
  (hr0 : Kd.C k35 w A0 l0.length l0) (hr1 : Kd.C k35 w A1 l1.length l1) (hl : l0.length + l1.length ≤ 1000001) :
  Calls Tryz.prog 105 #[.slice (some ⟨g, 0, none⟩) 2 2] w fun e w' => ∃ v : Value, e = .returned v ∧ RN w' w.heap.size v (l0 ++ l1) ∧ Below w.heap.size w w' := by
 have HG := Aside0.mk hg
 have HR0 := Aside0.mk hr0
 have HR1 := Aside0.mk hr1
 obtain ⟨n0, H0⟩ : ∃ n, Aside0 (l0.length = n) := ⟨_, ⟨rfl⟩⟩
 obtain ⟨n1, H1⟩ : ∃ n, Aside0 (l1.length = n) := ⟨_, ⟨rfl⟩⟩
 rw [H0.out, H1.out] at HG hl
 rw [H0.out] at HR0
 rw [H1.out] at HR1
 have g0 : w.cell? ⟨g, 0, none⟩ = _ := (blk_cell HG.out 0).trans rfl
 have g1 : w.cell? ⟨g, 1, none⟩ = _ := (blk_cell HG.out 1).trans rfl
 clear hg hr0 hr1
 go_enter Tryz.func105, Tryz.ntmps105
 go_wp2
 go_loopw [3, 11] (fun s i wr => wr = w ∧ ((s = .int .i64 0 ∧ i = .int .i64 0) ∨ (s = .int .i64 n0 ∧ i = .int .i64 1) ∨ (s = .int .i64 ((n0 + n1 : Nat) : Int) ∧ i = .int .i64 2))) (fun _ i _ => 2 - (intOf i).toNat)
 case atStart => exact ⟨rfl, .inl ⟨rfl, rfl⟩⟩
 case round =>
  obtain ⟨rfl, ⟨rfl, rfl⟩ | ⟨rfl, rfl⟩ | ⟨rfl, rfl⟩⟩ := hrel
  ·
   have h1 : wrap64 (0 + (n0 : Int)) = (n0 : Int) := by unfold wrap64; omega
   have h2 : ¬ ((n0 : Int) < 0) := by omega
   go_wp2
   go_roundw
   case rel => exact ⟨by first | trivial | rfl, .inr (.inl ⟨by go_num, by go_num⟩)⟩
   case measure => simp [intOf]
  ·
   have h1 : wrap64 ((n0 : Int) + (n1 : Int)) = (n0 : Int) + (n1 : Int) := by unfold wrap64; omega
   have h2 : ¬ ((n0 : Int) + (n1 : Int) < 0) := by omega
   go_wp2
   go_roundw
   case rel => exact ⟨by first | trivial | rfl, .inr (.inr ⟨by go_num, by go_num⟩)⟩
   case measure => simp [intOf]
  ·
   have HGN := Aside0.mk (GrowNil.calls (n0 + n1) wr (by omega))
   clear g0 g1
   go_wp2_with fail
   refine HGN.out.mono ?_
   rintro e V ⟨v, rfl, hR, hb⟩
   have HV := Aside0.mk hR
   have HB := Aside0.mk hb
   clear hR hb HGN
   have HOG := Aside0.mk HG.out
   obtain ⟨wo, rfl⟩ : ∃ wo : World, wo = wr := ⟨_, rfl⟩
   go_wp2
   go_loopw [6, 27] (fun v i wr => ∃ u : Value, v = u ∧ ((i = .int .i64 0 ∧ Aside0 (RN wr wo.heap.size u [])) ∨ (i = .int .i64 1 ∧ Aside0 (RN wr wo.heap.size u l0)) ∨ (i = .int .i64 2 ∧ Aside0 (RN wr wo.heap.size u (l0 ++ l1)))) ∧ Aside0 (Below wo.heap.size wo wr)) (fun _ i _ => 2 - (intOf i).toNat)
   case atStart => exact ⟨_, rfl, .inl ⟨rfl, HV⟩, HB⟩
   case round =>
    obtain ⟨u, rfl, ⟨hi, HU⟩ | ⟨hi, HU⟩ | ⟨hi, HU⟩, HW⟩ := hrel
    ·
     subst hi
     have g0 : wr.cell? ⟨g, 0, none⟩ = _ := (blk_cell (blk_keep HG.out HW.out) 0).trans rfl
     obtain ⟨u', w', hrun, hR', hgr, _⟩ := run_append_nodes wo.heap.size 22 u6 [] l0 A0 c0 wr HU.out (by rw [H0.out]; exact Kd.C_below HR0.out HW.out) HW.out.size (by simp only [List.length_append, List.length_nil, H0.out, H1.out]; omega)
     rw [H0.out] at hrun
     have HRUN := Aside0.mk hrun
     have HR2 := Aside0.mk hR'
     have HW2 := Aside0.mk (grown_on hgr HW.out (fun k e => R_base HU.out k e))
     clear hrun hR' hgr
     go_wp2_with (at_builtin; refine wpList_append_eq rfl (.tmp 31) (.tmp 32) 22 rfl rfl rfl HRUN.out ?_)
     go_roundw
     case rel => exact ⟨_, rfl, .inr (.inl ⟨by go_num, HR2⟩), HW2⟩
     case measure => simp [intOf]
    ·
     subst hi
     have g1 : wr.cell? ⟨g, 1, none⟩ = _ := (blk_cell (blk_keep HG.out HW.out) 1).trans rfl
     obtain ⟨u', w', hrun, hR', hgr, _⟩ := run_append_nodes wo.heap.size 22 u6 l0 l1 A1 c1 wr HU.out (by rw [H1.out]; exact Kd.C_below HR1.out HW.out) HW.out.size (by simp only [List.length_append, List.length_nil, H0.out, H1.out]; omega)
     rw [H1.out] at hrun
     have HRUN := Aside0.mk hrun
     have HR2 := Aside0.mk hR'
     have HW2 := Aside0.mk (grown_on hgr HW.out (fun k e => R_base HU.out k e))
     clear hrun hR' hgr
     go_wp2_with (at_builtin; refine wpList_append_eq rfl (.tmp 31) (.tmp 32) 22 rfl rfl rfl HRUN.out ?_)
     go_roundw
     case rel => exact ⟨_, rfl, .inr (.inr ⟨by go_num, HR2⟩), HW2⟩
     case measure => simp [intOf]
    ·
     subst hi
     go_wp2
     go_ret
     exact ⟨_, rfl, HU.out, HW.out⟩
end Go.Proofs.YtjlpaagnajmogaaGreat.PWalk
end
section
namespace Go.MapLaw
open Go.Instr
open Go.ChangeMaps
open Go.MapKept (heap_alloc heap_set)
set_option linter.unusedSimpArgs false
/-- Block r is an iterator over the map in block b, which holds m; 'out' has come out, 'left' is still to come. -/
def MRange {κ β : Type} (enc : κ → Value) (val : β → Value) (w : World) (b r : Nat) (m out left : List (κ × β)) : Prop :=
 ∃ es clock since seen c0, w.heap[b]? = some (.map es clock) ∧ es.toList.map (fun e => (e.key, e.val)) = m.map (fun p => (enc p.1, val p.2)) ∧ w.heap[r]? = some (.mapIter (some b) since seen c0) ∧
  (∀ x ∈ es.toList, x.born < since) ∧ since ≤ c0 ∧ since ≤ clock ∧ es.toList.Pairwise (fun x y => x.born < y.born) ∧
  (leftOf es seen).toList.map (fun e => (e.key, e.val)) = left.map (fun p => (enc p.1, val p.2)) ∧ (out ++ left).Perm m
section
variable {κ β : Type} {P : Program} {K : TypeId} {enc : κ → Value} {val : β → Value} {w w' : World} {b r : Nat} {m out left : List (κ × β)}
theorem MRange.left_eq (h : MRange enc val w b r m out left) : w.rangeLeft b r = left.length := by
 obtain ⟨es, clock, since, seen, c0, hb, _, hr, _, _, _, _, hl, _⟩ := h
 have := congrArg List.length hl
 simp only [List.length_map, Array.length_toList] at this
 simp only [World.rangeLeft, hb, hr]
 exact this
theorem MRange.same (h : MRange enc val w b r m out left) (hb : w'.heap[b]? = w.heap[b]?) (hr : w'.heap[r]? = w.heap[r]?) : MRange enc val w' b r m out left := by
 obtain ⟨es, clock, since, seen, c0, h1, h2, h3, h4⟩ := h
 exact ⟨es, clock, since, seen, c0, hb.trans h1, h2, hr.trans h3, h4⟩
theorem MRange.lt (h : MRange enc val w b r m out left) : b < w.heap.size ∧ r < w.heap.size := by
 obtain ⟨es, clock, since, seen, c0, h1, h2, h3, h4⟩ := h
 exact ⟨(Array.getElem?_eq_some_iff.1 h1).1, (Array.getElem?_eq_some_iff.1 h3).1⟩
theorem MRange.done (h : MRange enc val w b r m out []) : out.Perm m := by
 obtain ⟨es, clock, since, seen, c0, _, _, _, _, _, _, _, _, hp⟩ := h
 rwa [List.append_nil] at hp
/-- 'range m'. -/
theorem MapIs.range {T E : TypeId} (h : MapIs enc val w b m) (hT : P.underlying T = some (.map K E)) :
  ∃ w', (Instr.range T (.map (some b))).run P w = .ok (.pointer (some ⟨w.heap.size, 0, none⟩)) w' ∧ MRange enc val w' b w.heap.size m [] m ∧ w.grownBy w' none ∧ w'.heap.size = w.heap.size + 1 := by
 have hlt := h.lt
 obtain ⟨es, clock, hb, h2, h3, h4⟩ := h
 refine ⟨_, run_range_map w T K E b es clock hT hb, ⟨es, clock, clock, #[], clock, ((MapKept.heap_alloc w _).2 b hlt).trans hb, h2, (MapKept.heap_alloc w _).1, h3, Nat.le_refl _, Nat.le_refl _, h4, ?_, List.Perm.refl _⟩, World.grownBy_alloc w _ none, by simp⟩
 rw [show leftOf es #[] = es by simp [leftOf]]
 exact h2
/-- The step. -/
theorem MRange.next (h : MRange enc val w b r m out left) (ty : TypeId) :
  (left = [] ∧ (Instr.next (.pointer (some ⟨r, 0, none⟩)) false ty).run P w = .ok (.tuple #[.bool false]) w) ∨
  ∃ k v left' w', (Instr.next (.pointer (some ⟨r, 0, none⟩)) false ty).run P w = .ok (.tuple #[.bool true, enc k, val v]) w' ∧ MRange enc val w' b r m (out ++ [(k, v)]) left' ∧ left'.length < left.length ∧ w.grownBy w' (some r) ∧ w'.heap.size = w.heap.size ∧
   (Instr.entry (.pointer (some ⟨r, 0, none⟩))).run P w' = .ok (.tuple #[enc k, val v]) w' := by
 obtain ⟨es, clock, since, seen, c0, hb, hm, hr, hold, hsc, hsk, hpw, hl, hp⟩ := h
 have hne : r ≠ b := by
  intro e
  rw [e, hb] at hr
  cases hr
 rcases run_next_at (P := P) w ty r b since c0 seen es clock hr hb hold hsc with ⟨h0, hrun⟩ | ⟨e, he, w1, hal, hrun⟩
 ·
  refine .inl ⟨?_, hrun⟩
  have := congrArg List.length hl
  simp only [List.length_map, Array.length_toList, h0] at this
  exact List.eq_nil_of_length_eq_zero this.symm
 ·
  obtain ⟨hem, hes⟩ := mem_left he
  have hr1 : w1.heap[r]? = some (.mapIter (some b) since seen c0) := by rcases hal with rfl | rfl <;> exact hr
  have hb1 : w1.heap[b]? = some (.map es clock) := by rcases hal with rfl | rfl <;> exact hb
  have hset := heap_set (o' := .mapIter (some b) since (seen.push e.born) clock) hr1
  have hb' : (setBlock w1 r (.mapIter (some b) since (seen.push e.born) clock)).heap[b]? = some (.map es clock) := (hset.2 b (fun e1 => hne e1.symm)).trans hb1
  have hnd : (es.toList.map (·.born)).Nodup := by
   rw [List.nodup_iff_pairwise_ne, List.pairwise_map]
   exact hpw.imp fun h => Nat.ne_of_lt h
  obtain ⟨L1, L2, hL⟩ := List.append_of_mem he
  have hnl : ((leftOf es seen).toList.map (·.born)).Nodup := by
   have hs : (leftOf es seen).toList.Sublist es.toList := by unfold leftOf; rw [Array.toList_filter]; exact List.filter_sublist
   exact List.Nodup.sublist (hs.map _) hnd
  have hL' : (leftOf es (seen.push e.born)).toList = L1 ++ L2 := by
   have h1 : (leftOf es (seen.push e.born)).toList = (leftOf es seen).toList.filter fun x => !(x.born == e.born) := by
    unfold leftOf
    rw [Array.toList_filter, Array.toList_filter, List.filter_filter]
    refine List.filter_congr fun x _ => ?_
    rw [contains_push]
    cases seen.contains x.born <;> cases (x.born == e.born) <;> rfl
   rw [h1, hL, List.filter_append, List.filter_cons]
   rw [hL, List.map_append, List.map_cons, List.nodup_append, List.nodup_cons] at hnl
   obtain ⟨_, ⟨hn1, _⟩, hn2⟩ := hnl
   have hq : ((!(e.born == e.born)) = true) = False := by simp
   simp only [hq, if_false]
   rw [List.filter_eq_self.2 fun x hx => ?_, List.filter_eq_self.2 fun x hx => ?_]
   ·
    have : x.born ≠ e.born := fun e1 => hn1 (by rw [← e1]; exact List.mem_map.2 ⟨x, hx, rfl⟩)
    simp [this]
   ·
    have : x.born ≠ e.born := fun e1 => hn2 _ (List.mem_map.2 ⟨x, hx, rfl⟩) _ (List.mem_cons_self ..) e1
    simp [this]
  rw [hL, List.map_append, List.map_cons] at hl
  obtain ⟨l1, l2, e1, e2, e3⟩ := List.map_eq_append_iff.1 hl.symm
  obtain ⟨p, l2, rfl, e4, e5⟩ := List.map_eq_cons_iff.1 e3
  obtain ⟨k, v⟩ := p
  simp only [Prod.mk.injEq] at e4
  subst e1
  have hk1 : e.key = enc k := e4.1.symm
  have hv1 : e.val = val v := e4.2.symm
  have hent := run_entry_at (P := P) _ r b since seen es clock e hset.1 hb' hem hnd
  rw [hk1, hv1] at hent hrun
  refine .inr ⟨k, v, l1 ++ l2, _, hrun, ⟨es, clock, since, seen.push e.born, clock, hb', hm, hset.1, hold, hsk, hsk, hpw, ?_, ?_⟩, ?_, ?_, ?_, hent⟩
  ·
   rw [hL', List.map_append, List.map_append, e2, e5]
  ·
   refine List.Perm.trans ?_ hp
   rw [List.append_assoc]
   refine List.Perm.append_left out ?_
   show ((k, v) :: (l1 ++ l2)).Perm (l1 ++ (k, v) :: l2)
   exact List.perm_middle.symm
  ·
   simp only [List.length_append, List.length_cons]; omega
  ·
   rcases hal with rfl | rfl <;> exact ⟨rfl, rfl, rfl, by simp [setBlock], fun i _ hi => hset.2 i (fun e1 => hi (by rw [e1]))⟩
  ·
   rcases hal with rfl | rfl <;> simp [setBlock]
end
section
variable {κ β : Type} {P : Program} {K : TypeId} {enc : κ → Value} {val : β → Value} {b r : Nat} {m out left : List (κ × β)} {ops : Array Oper} {rest : List Oper} {o : Oper} {a : Act} {Q : Exit → Act → World → Prop}
/-- 'range m' as an operation of a walk. -/
theorem wpList_range {w : World} (hg : o.guard = none) (x : Operand) (T : TypeId) (hop : o.op = Op.range T x) {E : TypeId} (hT : P.underlying T = some (.map K E)) (hx : a.eval x = .map (some b)) (h : MapIs enc val w b m)
  (hK : ∀ w', MRange enc val w' b w.heap.size m [] m → w.grownBy w' none → w'.heap.size = w.heap.size + 1 → wpList P ops Q rest (a.put o.dst (.pointer (some ⟨w.heap.size, 0, none⟩))) w') :
  wpList P ops Q (o :: rest) a w := by
 refine wpList_plain hg fun K' hK' => ?_
 obtain ⟨w', hrun, r1, r2, r3⟩ := h.range hT
 unfold Oper.wp
 simp [execOp, hop, hx, hrun, Result.andThen]
 exact hK' _ _ (hK w' r1 r2 r3)
/-- The step as an operation of a walk. -/
theorem wpList_next {w : World} (hg : o.guard = none) (it : Operand) (hop : o.op = Op.next it false) (hit : a.eval it = .pointer (some ⟨r, 0, none⟩)) (h : MRange enc val w b r m out left)
  (hDone : left = [] → wpList P ops Q rest (a.put o.dst (.tuple #[.bool false])) w)
  (hMore : ∀ k v left' w', MRange enc val w' b r m (out ++ [(k, v)]) left' → left'.length < left.length → w.grownBy w' (some r) → w'.heap.size = w.heap.size →
   (Instr.entry (.pointer (some ⟨r, 0, none⟩))).run P w' = .ok (.tuple #[enc k, val v]) w' → wpList P ops Q rest (a.put o.dst (.tuple #[.bool true, enc k, val v])) w') :
  wpList P ops Q (o :: rest) a w := by
 refine wpList_plain hg fun K' hK' => ?_
 unfold Oper.wp
 rcases h.next (P := P) o.type with ⟨h0, hrun⟩ | ⟨k, v, left', w', hrun, h1, h2, h3, h4, h5⟩
 ·
  simp [execOp, hop, hit, hrun, Result.andThen]
  exact hK' _ _ (hDone h0)
 ·
  simp [execOp, hop, hit, hrun, Result.andThen]
  exact hK' _ _ (hMore k v left' w' h1 h2 h3 h4 h5)
end
end Go.MapLaw
end
section
namespace Go.Proofs.YtjlpaagnajmogaaGreat.PWalk
open Go.RowKit Go.Proofs.YtjlpaagnajmogaaGreatW.PrintWords Go.Proofs.YtjlpaagnajmogaaGreatW.PrintLast Go.Proofs.YtjlpaagnajmogaaGreatW.PrintMore
set_option linter.unusedVariables false
set_option linter.unusedSimpArgs false
open Go.Shelf
attribute [local go_sem] Oper.semAt_some
set_option maxRecDepth 100000 in
theorem dotKey : MapLaw.MKey (κ := Dot) Tryz.prog 24 vDot where
 check := fun b x w => by
  unfold Instr.checkKey
  go_simp
  rfl
 equal := fun x y w => by
  unfold Op.equal Op.maxDepth
  rw [eqA24]
  congr 1
  rw [Bool.eq_iff_iff]
  simp [Dot.ext_iff']
 desc := ⟨_, Tryz.underlying24, .inl fun x y => rfl⟩
 bits := fun x => by simp [Instr.sameBits]
def ofCmp (a b : Node) : Int := dotCmp a.f0 b.f0
set_option maxRecDepth 100000 in
theorem of1_call (a b : Node) (w : World) : Calls Tryz.prog 133 #[vNode a, vNode b] w fun e w' => e = .returned (.int .i64 (ofCmp a b)) ∧ Gr w w' := by
 have hA : ((w.alloc (boxN a)).alloc (boxN b)).heap[w.heap.size]? = some (boxN a) := blk_alloc (blk_new _ _) _
 have hB : ((w.alloc (boxN a)).alloc (boxN b)).heap[w.heap.size + 1]? = some (boxN b) := by have := blk_new (w.alloc (boxN a)) (boxN b); rwa [World.size_alloc] at this
 have HG := Aside0.mk ((Gr.alloc w (boxN a)).trans (Gr.alloc _ (boxN b)))
 obtain ⟨r, HR⟩ : ∃ r, Aside0 (ofCmp a b = r) := ⟨_, ⟨rfl⟩⟩
 rw [HR.out]
 obtain ⟨hA0, hA1, _⟩ := box_cells hA
 obtain ⟨hB0, hB1, _⟩ := box_cells hB
 clear hA hB
 go_enter Tryz.func133, Tryz.ntmps133
 go_wp2_with fail
 refine (dotCmp_call a.f0 b.f0 _).mono ?_
 rintro e W1 ⟨rfl, hb⟩
 have HG := Aside0.mk (HG.out.trans hb)
 clear hb hA0 hA1 hB0 hB1
 go_wp2_with fail
 go_ret
 exact ⟨by rw [← HR.out]; rfl, HG.out⟩
theorem ofCmp_lt (a b : Node) : decide (ofCmp a b < 0) = dotLt a.f0 b.f0 := dotCmp_lt a.f0 b.f0
theorem swoOf : Go.Sort.SWO (ltOf ofCmp) := by
 have e : ltOf ofCmp = fun a b => dotLt a.f0 b.f0 := by funext x y; exact ofCmp_lt x y
 rw [e]
 exact ⟨fun a => dotLt_irrefl _, fun _ _ _ h k => dotLt_trans h k, fun a b c h k => by
  unfold dotLt at *
  simp only [decide_eq_false_iff_not] at *
  omega⟩
set_option maxRecDepth 100000 in
theorem sortNd_call (base : Nat) (u : Value) (xs : List Node) (w : World) (h : RN w base u xs) (hl : xs.length ≤ 1000001) :
  Calls Tryz.prog 112 #[u, .func (.func 133) #[] #[]] w fun e w' => e = .returned (.tuple #[]) ∧ ∃ ys, RN w' base u ys ∧ ys.Perm xs ∧ ys.Pairwise (fun a b => dotLt b.f0 a.f0 = false) ∧ Tch (fun i => u.ownBlock = some i) w w' := by
 obtain ⟨hcl, ho⟩ := cells_of_R h
 rcases ho with ⟨h0, h1⟩ | ⟨g, cap, cur, he, hbg, hcur, hle, hmx, hsz, htk⟩
 ·
  subst h0
  have hx : xs = [] := List.length_eq_zero_iff.1 h1
  subst hx
  refine (Go.Proofs.AnyF.slices_SortFunc_none Tryz.sortNode none 0 (.func (.func 133) #[] #[]) w).mono ?_
  rintro e w' ⟨rfl, rfl⟩
  exact ⟨rfl, [], h, List.Perm.refl _, List.Pairwise.nil, ⟨rfl, rfl, rfl, Nat.le_refl _, fun _ _ _ => rfl⟩⟩
 subst he
 obtain ⟨n, hn⟩ : ∃ n, xs.length = n := ⟨_, rfl⟩
 rw [hn] at hle htk h hcl ⊢
 have hds : xs.toArray.size = n := by rw [List.size_toArray]; exact hn
 have hH := row_holds nodeCells 6 (fun _ => rfl) (by decide) (d := xs.toArray) hcur hds htk
 have hcon := Go.Proofs.AnyQ.slices_SortFunc Tryz.sortNode 6 Tryz.isAgg35 Tryz.sizeOf35 nodeCells (fun _ => rfl) (fun x v hv => one_cells [x] v (by simpa [cellsOf] using hv)) ofCmp swoOf 133 #[] g 0 cap xs.toArray w (enters_of Tryz.func133 (by kernel_rfl) rfl) (fun m os dk hs x y => of1_call x y _) hH (blk_lt hcur) (by rw [hds]; omega)
 rw [hds] at hcon
 refine hcon.mono ?_
 rintro e w' ⟨rfl, d', m, os, hp, hs, rfl⟩
 have hd' : d'.size = n := hp.1.trans hds
 obtain ⟨⟨cur', h1, h2, h3⟩, ht⟩ := row_sorted nodeCells 6 (fun _ => rfl) (by decide) (d' := d') hcur hsz hd' hle m os
 have hperm : d'.toList.Perm xs := by
  have := hp.2.2
  rw [hd'.symm, Array.extract_size, hd', ← hds, Array.extract_size] at this
  exact this
 have hlen : d'.toList.length = n := by rw [Array.length_toList]; exact hd'
 refine ⟨rfl, d'.toList, R_of_cells ⟨by rw [cellsOf_length], .inr ⟨g, cap, cur', by rw [hlen], hbg, h1, by rw [hlen]; exact hle, hmx, h2, by rw [hlen, h3]; rfl⟩⟩ (fun _ _ => trivial), hperm, ?_, ht⟩
 refine List.pairwise_iff_getElem.2 fun i j hi hj hij => ?_
 have := hs i j (Nat.zero_le _) hij (by rw [Array.length_toList, hd'] at hj; omega)
 rw [Array.length_toList] at hi hj
 rw [getElem!_pos d' j hj, getElem!_pos d' i hi] at this
 rw [← ofCmp_lt]
 simpa [ltOf] using this
/-- One list alone is increasing, of those that have the same nodes. -/
theorem inc_perm : ∀ {a b : List Node}, a.Perm b → a.Pairwise (fun x y => dotLt y.f0 x.f0 = false) → Inc b → a = b
 | [], b, hp, _, _ => by rw [List.nil_perm.1 hp]
 | x :: a, [], hp, _, _ => absurd (List.perm_nil.1 hp) (by simp)
 | x :: a, y :: b, hp, ha, hb => by
  obtain ⟨ha1, ha2⟩ := List.pairwise_cons.1 ha
  obtain ⟨hb1, hb2⟩ := List.pairwise_cons.1 hb
  have hxy : x = y := by
   refine Classical.byContradiction fun hne => ?_
   have hx : x ∈ b := (List.mem_cons.1 (hp.mem_iff.1 List.mem_cons_self)).resolve_left hne
   have hy : y ∈ a := (List.mem_cons.1 (hp.mem_iff.2 List.mem_cons_self)).resolve_left (fun e => hne e.symm)
   have h1 := hb1 x hx
   rw [ha1 y hy] at h1
   cases h1
  subst hxy
  rw [inc_perm (List.Perm.cons_inv hp) ha2 hb2]
end Go.Proofs.YtjlpaagnajmogaaGreat.PWalk
end
section
namespace Go.Proofs.YtjlpaagnajmogaaGreat.PWalk
open Go.RowKit Go.Proofs.YtjlpaagnajmogaaGreatW.PrintWords Go.Proofs.YtjlpaagnajmogaaGreatW.PrintLast Go.Proofs.YtjlpaagnajmogaaGreatW.PrintMore
set_option linter.unusedVariables false
set_option linter.unusedSimpArgs false
open Go.Shelf
attribute [local go_sem] Oper.semAt_some
abbrev keyed (l : List Node) : List (Dot × Node) := l.map fun x => (x.f0, x)
theorem keyed_keys (l : List Node) : (keyed l).map (·.1) = l.map (·.f0) := by simp [keyed, Function.comp_def]
theorem mset_end {m : List (Dot × Node)} {d : Dot} (h : MapLaw.mget m d = none) (x : Node) : MapLaw.mset m d x = m ++ [(d, x)] := by
 induction m with
 | nil => rfl
 | cons p r ih =>
  rw [MapLaw.mget_cons] at h
  rw [MapLaw.mset]
  split at h
  ·
   cases h
  ·
   rename_i hne
   rw [if_neg hne, ih h]; rfl
theorem nd_at {l : List Node} (h : (l.map (·.f0)).Nodup) {k : Nat} {x : Node} (hk : l[k]? = some x) : x.f0 ∉ (l.take k).map (·.f0) := by
 intro hm
 obtain ⟨y, hy, e⟩ := List.mem_map.1 hm
 obtain ⟨j, hj⟩ := List.getElem?_of_mem hy
 rw [List.getElem?_take] at hj
 split at hj
 ·
  rename_i hjk
  obtain ⟨hj1, hj2⟩ := List.getElem?_eq_some_iff.1 hj
  obtain ⟨hk1, hk2⟩ := List.getElem?_eq_some_iff.1 hk
  rw [List.nodup_iff_pairwise_ne, List.pairwise_iff_getElem] at h
  have := h j k (by rw [List.length_map]; exact hj1) (by rw [List.length_map]; exact hk1) hjk
  rw [List.getElem_map, List.getElem_map, hj2, hk2] at this
  exact this e
 ·
  cases hj
theorem take_get {l : List Node} {k : Nat} {x : Node} (hk : l[k]? = some x) : l.take (k + 1) = l.take k ++ [x] := by
 rw [List.take_add_one, hk]; rfl
set_option maxHeartbeats 2000000 in
set_option maxRecDepth 100000 in
theorem store_Of.calls (A0 : Option Addr) (c0 : Nat) (l r : List Node) (w : World) (hr0 : Kd.C k35 w A0 l.length l) (hc0 : l.length ≤ c0) (hl : l.length ≤ 1000001)
  (hok : ∀ x ∈ l, nodeOk x = true) (hnd : (l.map (·.f0)).Nodup) (hrp : r.Perm l) (hri : Inc r) :
  Calls Tryz.prog 104 #[.slice A0 l.length c0] w fun e w' => ∃ v : Value, e = .returned (.tuple #[v, .int .i64 0]) ∧ Kd.R k35 35 w' w.heap.size (fun _ => True) v r ∧ Below w.heap.size w w' := by
 have HR := Aside0.mk hr0
 have HCF := Aside0.mk (ContainsFuncNode.calls (fun x => !nodeOk x) 89 #[] A0 c0 l w hr0 hc0 Tryz.call89 (fun x W hW => store_invalid.calls 1 _ _ _ _ _ _ _ W (invalid_is 0 x)))
 have HAN : Aside0 ((l.any fun x => !nodeOk x) = false) := ⟨by
  rw [List.any_eq_false]
  intro x hx
  rw [hok x hx]; decide⟩
 rw [HAN.out] at HCF
 have HND := Aside0.mk hnd
 have HRP := Aside0.mk hrp
 have HRI := Aside0.mk hri
 obtain ⟨n, Hn⟩ : ∃ n, Aside0 (l.length = n) := ⟨_, ⟨rfl⟩⟩
 have HNL := Aside0.mk hl
 rw [Hn.out] at HCF HR hl ⊢
 have hu := Tryz.underlying35
 have hu2 := Tryz.underlying24
 have hmm := @run_makeMap Tryz.prog
 clear hr0 hok hnd hrp hri hc0
 go_enter Tryz.func104, Tryz.ntmps104
 go_wp2_with fail
 refine HCF.out.mono ?_
 rintro e V ⟨rfl, hb⟩
 have HB := Aside0.mk hb
 clear hb HCF
 have HM0 := Aside0.mk ((MapLaw.MapIs.new (enc := vDot) (val := vNode) V).below (below_alloc (Below.refl _ _) (.map #[] 0)))
 have HA0 := Aside0.mk (MapLaw.MapIs.new (enc := vDot) (val := vNode) (V.alloc (.map #[] 0)))
 have HB0 := Aside0.mk (below_more (below_more HB.out (below_alloc (Below.refl _ V) (.map #[] 0))) (below_alloc (Below.refl _ (V.alloc (.map #[] 0))) (.map #[] 0)))
 have hVs : Aside0 (w.heap.size ≤ V.heap.size) := ⟨HB.out.size⟩
 go_wp2
 go_loopw [25] (fun i wr => ∃ (k : Nat) (mA : List (Dot × Node)), i = .int .i64 k ∧ k ≤ n ∧ Aside0 (MapLaw.MapIs vDot vNode wr V.heap.size (keyed (l.take k))) ∧ Aside0 (MapLaw.MapIs vDot vNode wr (V.heap.size + 1) mA) ∧ Aside0 (∀ d, d ∉ (l.take k).map (·.f0) → MapLaw.mget mA d = none) ∧ Aside0 (Below w.heap.size w wr)) (fun i _ => n - (intOf i).toNat)
 case atStart => exact ⟨0, [], rfl, Nat.zero_le _, HM0, by simpa using HA0, ⟨fun d _ => rfl⟩, HB0⟩
 case round =>
  obtain ⟨k, mA, rfl, hk, HM, HA, HAK, HW⟩ := hrel
  by_cases hlt : k < n
  ·
   obtain ⟨x, hx⟩ : ∃ x, Aside0 (l[k]? = some x) := ⟨_, ⟨List.getElem?_eq_getElem (by rw [Hn.out]; exact hlt)⟩⟩
   obtain ⟨ad, e, h0, h1, h2, h3, h4, h5⟩ := node_at HR.out HW.out k x hx.out
   subst e
   go_wp2_with (first | (at_lookup; refine MapLaw.wpList_lookup rfl _ _ _ true rfl dotKey Tryz.underlying150 (z := .agg #[.int .i64 0, .int .i64 0, .int .i64 0, .int .i64 0, .int .i64 0, .int .i32 0]) Tryz.zeroValue35 x.f0 rfl rfl (HA.out.below (below_alloc (Below.refl _ _) _)) (v := .agg #[.int .i64 0, .int .i64 0, .int .i64 0, .int .i64 0, .int .i64 0, .int .i32 0]) (is := false) (by rw [HAK.out _ (nd_at HND.out hx.out)]; rfl) (by rw [HAK.out _ (nd_at HND.out hx.out)]; rfl) ?_) | fail)
   have HX := Aside0.mk (blk_alloc (blk_new wr (boxN x)) (.cells #[.int .i64 0, .int .i64 0, .int .i64 0, .int .i64 0, .int .i64 0, .int .i32 0] 35))
   have HBX := Aside0.mk (below_more (below_alloc (Below.refl _ wr) (boxN x)) (below_alloc (Below.refl _ (wr.alloc (boxN x))) (.cells #[.int .i64 0, .int .i64 0, .int .i64 0, .int .i64 0, .int .i64 0, .int .i32 0] 35)))
   clear h0 h1 h2 h3 h4 h5
   refine (dead_call x _).mono ?_
   rintro e W1 ⟨rfl, hb⟩
   have HX := Aside0.mk (blk_keep HX.out hb)
   have HBX := Aside0.mk (below_more HBX.out hb)
   clear hb
   have HM2 := Aside0.mk (HM.out.below HBX.out)
   have HA2 := Aside0.mk (HA.out.below HBX.out)
   have HB2 := Aside0.mk (below_more HW.out HBX.out)
   by_cases hd : x.f3 = 0
   ·
    have HD := Aside0.mk hd
    rw [show decide (x.f3 = 0) = true by simp [hd]]
    clear hd
    have HAK2 : Aside0 (∀ d, d ∉ (l.take (k + 1)).map (·.f0) → MapLaw.mget mA d = none) := ⟨fun d hd => HAK.out d fun h => hd (by rw [take_get hx.out, List.map_append]; exact List.mem_append_left _ h)⟩
    obtain ⟨x0, x1, x2, x3, x4, x5⟩ := box_cells HX.out
    have HXM := Aside0.mk (blk_alloc HX.out (.cells #[.int .i64 0, .int .i64 0, .int .i64 0, .int .i64 0, .int .i64 0, .int .i32 0] 35))
    obtain ⟨z0, z1, z2, z3, z4, z5⟩ := box_cells HXM.out
    have HNM : Aside0 (MapLaw.mget (keyed (l.take k)) x.f0 = none) := ⟨by rw [MapLaw.mget_none_iff, keyed_keys]; exact nd_at HND.out hx.out⟩
    have HMZ := Aside0.mk (HM2.out.below (below_alloc (Below.refl _ _) (.cells #[.int .i64 0, .int .i64 0, .int .i64 0, .int .i64 0, .int .i64 0, .int .i32 0] 35)))
    have HAZ := Aside0.mk (HA2.out.below (below_alloc (Below.refl _ _) (.cells #[.int .i64 0, .int .i64 0, .int .i64 0, .int .i64 0, .int .i64 0, .int .i32 0] 35)))
    have HBZ := Aside0.mk (below_more HB2.out (below_alloc (Below.refl _ _) (.cells #[.int .i64 0, .int .i64 0, .int .i64 0, .int .i64 0, .int .i64 0, .int .i32 0] 35)))
    go_wp2_with (first | (at_lookup; refine MapLaw.wpList_lookup rfl _ _ _ true rfl dotKey Tryz.underlying150 (z := .agg #[.int .i64 0, .int .i64 0, .int .i64 0, .int .i64 0, .int .i64 0, .int .i32 0]) Tryz.zeroValue35 x.f0 rfl rfl HM2.out (v := .agg #[.int .i64 0, .int .i64 0, .int .i64 0, .int .i64 0, .int .i64 0, .int .i32 0]) (is := false) (by rw [HNM.out]; rfl) (by rw [HNM.out]; rfl) ?_) | (at_mapUpdate; (refine MapLaw.wpList_update rfl _ _ _ _ rfl dotKey Tryz.underlying150 x.f0 x rfl rfl rfl HMZ.out ?_); intro W5 hM5 hg5) | fail)
    have HM5 : Aside0 (MapLaw.MapIs vDot vNode W5 V.heap.size (keyed (l.take (k + 1)))) := ⟨by rw [mset_end HNM.out, ← show keyed (l.take (k + 1)) = keyed (l.take k) ++ [(x.f0, x)] by rw [take_get hx.out, keyed, List.map_append]; rfl] at hM5; exact hM5⟩
    have HA5 : Aside0 (MapLaw.MapIs vDot vNode W5 (V.heap.size + 1) mA) := ⟨HAZ.out.same (hg5.block _ HAZ.out.lt (fun e => by have := Option.some.inj e; omega))⟩
    have HB5 := Aside0.mk (grown_on hg5 HBZ.out (fun k e => by have := Option.some.inj e; have := hVs.out; omega))
    clear hM5 hg5 x0 x1 x2 x3 x4 x5 z0 z1 z2 z3 z4 z5
    go_roundw
    case rel => exact ⟨k + 1, mA, by go_num, by omega, HM5, HA5, HAK2, HB5⟩
    case measure => simp [intOf]; omega
   ·
    have HD := Aside0.mk hd
    rw [show decide (x.f3 = 0) = false by simp [hd]]
    clear hd
    have HAK2 : Aside0 (∀ d, d ∉ (l.take (k + 1)).map (·.f0) → MapLaw.mget (MapLaw.mset mA x.f0 x) d = none) := ⟨fun d hd => by
     rw [take_get hx.out, List.map_append, List.mem_append] at hd
     rw [MapLaw.mget_mset, if_neg (fun e => hd (.inr (by rw [e]; simp)))]
     exact HAK.out d fun h => hd (.inl h)⟩
    obtain ⟨x0, x1, x2, x3, x4, x5⟩ := box_cells HX.out
    go_upto_region 14 with (at_mapUpdate; refine MapLaw.wpList_update rfl _ _ _ _ rfl dotKey Tryz.underlying150 x.f0 x rfl rfl rfl HA2.out ?_; intro W3 hA3 hg3)
    have HM2 := Aside0.mk (HM2.out.same (hg3.block _ HM2.out.lt (fun e => by have := Option.some.inj e; omega)))
    have HX := Aside0.mk ((hg3.block _ (blk_lt HX.out) (fun e => by have := Option.some.inj e; have := HA.out.lt; omega)).trans HX.out)
    have HB2 := Aside0.mk (grown_on hg3 HB2.out (fun k e => by have := Option.some.inj e; have := hVs.out; omega))
    have HA2 := Aside0.mk hA3
    clear hA3 hg3 x0 x1 x2 x3 x4 x5
    obtain ⟨x0, x1, x2, x3, x4, x5⟩ := box_cells HX.out
    have HXM := Aside0.mk (blk_alloc HX.out (.cells #[.int .i64 0, .int .i64 0, .int .i64 0, .int .i64 0, .int .i64 0, .int .i32 0] 35))
    obtain ⟨z0, z1, z2, z3, z4, z5⟩ := box_cells HXM.out
    have HNM : Aside0 (MapLaw.mget (keyed (l.take k)) x.f0 = none) := ⟨by rw [MapLaw.mget_none_iff, keyed_keys]; exact nd_at HND.out hx.out⟩
    have HMZ := Aside0.mk (HM2.out.below (below_alloc (Below.refl _ _) (.cells #[.int .i64 0, .int .i64 0, .int .i64 0, .int .i64 0, .int .i64 0, .int .i32 0] 35)))
    have HAZ := Aside0.mk (HA2.out.below (below_alloc (Below.refl _ _) (.cells #[.int .i64 0, .int .i64 0, .int .i64 0, .int .i64 0, .int .i64 0, .int .i32 0] 35)))
    have HBZ := Aside0.mk (below_more HB2.out (below_alloc (Below.refl _ _) (.cells #[.int .i64 0, .int .i64 0, .int .i64 0, .int .i64 0, .int .i64 0, .int .i32 0] 35)))
    go_wp2_with (first | (at_lookup; refine MapLaw.wpList_lookup rfl _ _ _ true rfl dotKey Tryz.underlying150 (z := .agg #[.int .i64 0, .int .i64 0, .int .i64 0, .int .i64 0, .int .i64 0, .int .i32 0]) Tryz.zeroValue35 x.f0 rfl rfl HM2.out (v := .agg #[.int .i64 0, .int .i64 0, .int .i64 0, .int .i64 0, .int .i64 0, .int .i32 0]) (is := false) (by rw [HNM.out]; rfl) (by rw [HNM.out]; rfl) ?_) | (at_mapUpdate; (refine MapLaw.wpList_update rfl _ _ _ _ rfl dotKey Tryz.underlying150 x.f0 x rfl rfl rfl HMZ.out ?_); intro W5 hM5 hg5) | fail)
    have HM5 : Aside0 (MapLaw.MapIs vDot vNode W5 V.heap.size (keyed (l.take (k + 1)))) := ⟨by rw [mset_end HNM.out, ← show keyed (l.take (k + 1)) = keyed (l.take k) ++ [(x.f0, x)] by rw [take_get hx.out, keyed, List.map_append]; rfl] at hM5; exact hM5⟩
    have HA5 : Aside0 (MapLaw.MapIs vDot vNode W5 (V.heap.size + 1) (MapLaw.mset mA x.f0 x)) := ⟨HAZ.out.same (hg5.block _ HAZ.out.lt (fun e => by have := Option.some.inj e; omega))⟩
    have HB5 := Aside0.mk (grown_on hg5 HBZ.out (fun k e => by have := Option.some.inj e; have := hVs.out; omega))
    clear hM5 hg5 x0 x1 x2 x3 x4 x5 z0 z1 z2 z3 z4 z5
    go_roundw
    case rel => exact ⟨k + 1, (MapLaw.mset mA x.f0 x), by go_num, by omega, HM5, HA5, HAK2, HB5⟩
    case measure => simp [intOf]; omega
  ·
   obtain rfl : k = n := by omega
   have HM := Aside0.mk (show MapLaw.MapIs vDot vNode wr V.heap.size (keyed l) by have := HM.out; rwa [List.take_of_length_le (by rw [Hn.out]; exact Nat.le_refl _)] at this)
   obtain ⟨B, HBV⟩ : ∃ B, Aside0 (V.heap.size = B) := ⟨_, ⟨rfl⟩⟩
   have HSB := Aside0.mk (show w.heap.size ≤ B by rw [← HBV.out]; exact hVs.out)
   rw [HBV.out] at HM ⊢
   clear HA HAK HM0 HA0 HB0 hmm
   go_wp2_with (at_range; refine MapLaw.wpList_range rfl _ _ rfl Tryz.underlying150 rfl HM.out ?_; intro V2 hrg0 hg0 hs0)
   obtain ⟨R0, HR0⟩ : ∃ R0, Aside0 (wr.heap.size = R0) := ⟨_, ⟨rfl⟩⟩
   rw [HR0.out] at hrg0 hs0 ⊢
   have HRG := Aside0.mk hrg0
   have HBR := Aside0.mk (show B < R0 by rw [← HR0.out]; exact HM.out.lt)
   have HW2 := Aside0.mk (grown_on hg0 HW.out (fun k e => by cases e))
   clear hrg0 hg0
   go_frame
   go_loopw [16] (fun v wr => ∃ out left, Aside0 (MapLaw.MRange vDot vNode wr B R0 (keyed l) out left) ∧ Aside0 (RN wr (R0 + 1) v (out.map (·.2))) ∧ Aside0 (Below w.heap.size w wr)) (fun _ wr => wr.rangeLeft B R0)
   case atStart => exact ⟨[], _, HRG, ⟨Kd.R_nil _ _ _ _ _⟩, HW2⟩
   case round =>
    obtain ⟨out, left, HRG, HU, HWW⟩ := hrel
    go_wp2_with (at_next; refine MapLaw.wpList_next rfl _ rfl rfl HRG.out ?_ ?_)
    ·
     intro hl0
     subst hl0
     have HP : Aside0 ((out.map (·.2)).Perm l) := ⟨by
      have := (HRG.out.done).map (·.2)
      rwa [show (keyed l).map (·.2) = l by simp [keyed, Function.comp_def]] at this⟩
     have HS := Aside0.mk (sortNd_call (R0 + 1) u16 (out.map (·.2)) wr HU.out (by rw [HP.out.length_eq]; exact HNL.out))
     have HLE := Aside0.mk (show w.heap.size ≤ R0 + 1 by have := HSB.out; have := HBR.out; omega)
     have HUB := Aside0.mk (R_base HU.out)
     clear HU HRG
     go_wp2_with fail
     refine HS.out.mono ?_
     rintro e V3 ⟨rfl, ys, hRy, hpy, hsy, ht⟩
     obtain rfl := inc_perm (hpy.trans (HP.out.trans HRP.out.symm)) hsy HRI.out
     have HY := Aside0.mk (Kd.R_lower hRy HLE.out)
     have HT := Aside0.mk (ht.on HWW.out (fun i e => by have := HUB.out i e; have := HLE.out; omega))
     clear hRy ht hsy hpy HS
     go_wp2
     go_ret2
     exact ⟨_, rfl, HY.out, HT.out⟩
    ·
     intro kk x left' W1 hrg1 hlt1 hg1 hs1 hen
     have HRG1 := Aside0.mk hrg1
     have HU1 := Aside0.mk (HU.out.keep (V := W1) fun g hg => hg1.block g (HU.out.lt hg) (fun e => by have := Option.some.inj e; have := R_base HU.out g hg; omega))
     have HW1 := Aside0.mk (grown_on hg1 HWW.out (fun k e => by have := Option.some.inj e; have := HSB.out; have := HBR.out; omega))
     have HLT1 := Aside0.mk hlt1
     have HB3 := Aside0.mk (below_more (below_alloc (Below.refl _ W1) (boxN x)) (below_alloc (Below.refl _ (W1.alloc (boxN x))) (boxN x)))
     have HLN : Aside0 ((out.map (·.2)).length + 1 ≤ 1000001) := ⟨by
      obtain ⟨_, _, _, _, _, _, _, _, _, _, _, _, _, hp⟩ := hrg1
      have := hp.length_eq
      simp only [List.length_append, List.length_cons, List.length_nil, List.length_map] at this ⊢
      have := HNL.out
      omega⟩
     have hbx := blk_new (W1.alloc (boxN x)) (boxN x)
     rw [World.size_alloc] at hbx
     obtain ⟨u', w', hrun, hR', hgr, _⟩ := run_append_node (R0 + 1) 22 u16 (out.map (·.2)) x (W1.heap.size + 1) 1 _ (own_more HU1.out HB3.out) hbx (by have := HB3.out.size; have := hrg1.lt.2; omega) HLN.out
     have HRUN := Aside0.mk hrun
     have HR5 : Aside0 (RN w' (R0 + 1) u' ((out ++ [(kk, x)]).map (·.2))) := ⟨by rw [List.map_append]; exact hR'⟩
     have HRG5 : Aside0 (MapLaw.MRange vDot vNode w' B R0 (keyed l) (out ++ [(kk, x)]) left') := ⟨hrg1.same
      ((hgr.block B (by have := HB3.out.size; have := hrg1.lt.1; omega) (fun e => by have := R_base HU1.out B e.symm; have := HBR.out; omega)).trans (HB3.out.block B hrg1.lt.1))
      ((hgr.block R0 (by have := HB3.out.size; have := hrg1.lt.2; omega) (fun e => by have := R_base HU1.out R0 e.symm; omega)).trans (HB3.out.block R0 hrg1.lt.2))⟩
     have HW5 := Aside0.mk (grown_on hgr (below_more HW1.out HB3.out) (fun k e => by have := R_base HU1.out k e; have := HSB.out; have := HBR.out; omega))
     have HML := Aside0.mk HRG.out.left_eq
     clear hrun hR' hgr hbx hrg1 hlt1 hg1 HU HRG hs1
     go_wp2_with (at_builtin; refine wpList_append_eq rfl (.tmp 82) (.tmp 84) 22 rfl rfl rfl HRUN.out ?_)
     go_roundw
     case rel => exact ⟨_, left', HRG5, HR5, HW5⟩
     case measure => rw [HRG5.out.left_eq, HML.out]; exact HLT1.out
end Go.Proofs.YtjlpaagnajmogaaGreat.PWalk
end
section
namespace Go.Proofs.YtjlpaagnajmogaaGreat.PWalk
open Go.RowKit Go.Proofs.YtjlpaagnajmogaaGreatW.PrintWords Go.Proofs.YtjlpaagnajmogaaGreatW.PrintLast Go.Proofs.YtjlpaagnajmogaaGreatW.PrintMore
set_option linter.unusedVariables false
set_option linter.unusedSimpArgs false
open Go.Shelf
attribute [local go_sem] Oper.semAt_some
set_option maxHeartbeats 1000000 in
set_option maxRecDepth 100000 in
theorem store_Put.calls (A0 : Option Addr) (c0 : Nat) (l : List Node) (x : Node) (r : List Node) (w : World) (hr0 : Kd.C k35 w A0 l.length l) (hc0 : l.length ≤ c0) (hl : l.length ≤ 1000000)
  (hs : storeOk l = true) (hx : nodeOk x = true) (hnew : x.f0 ∉ l.map (·.f0)) (hrp : r.Perm (l ++ [x])) (hri : Inc r) :
  Calls Tryz.prog 61 #[.slice A0 l.length c0, vNode x] w fun e w' => ∃ v : Value, e = .returned (.tuple #[v, .int .i64 0]) ∧ Kd.R k35 35 w' w.heap.size (fun _ => True) v r ∧ Below w.heap.size w w' := by
 have HR := Aside0.mk hr0
 have HC := Aside0.mk hc0
 have HL := Aside0.mk hl
 have HOK : Aside0 (∀ y ∈ l ++ [x], nodeOk y = true) := ⟨fun y hy => by
  rcases List.mem_append.1 hy with h | h
  ·
   exact (store_of hs).ok y h
  ·
   rw [List.mem_singleton.1 h]; exact hx⟩
 have HND : Aside0 (((l ++ [x]).map (·.f0)).Nodup) := ⟨by
  rw [List.map_append, List.nodup_append]
  refine ⟨?_, by simp, fun a ha b hb e => ?_⟩
  ·
   rw [List.nodup_iff_pairwise_ne, List.pairwise_map]
   refine List.Pairwise.imp (fun {a b} h e => ?_) (store_of hs).inc
   rw [e, dotLt_irrefl] at h; cases h
  ·
   simp at hb; subst hb; subst e; exact hnew ha⟩
 have HRP := Aside0.mk hrp
 have HRI := Aside0.mk hri
 obtain ⟨n, Hn⟩ : ∃ n, Aside0 (l.length = n) := ⟨_, ⟨rfl⟩⟩
 have HVAL := Aside0.mk (store_Valid.calls A0 c0 l true (w.alloc (boxN x)) (Kd.C_below hr0 (below_alloc (Below.refl _ w) (boxN x))) hc0 (by unfold store_Valid.f; rw [if_pos hl, hs]))
 have HX := Aside0.mk (blk_new w (boxN x))
 have HB0 := Aside0.mk (below_alloc (Below.refl _ w) (boxN x))
 rw [Hn.out] at HVAL HR HC ⊢
 clear hr0 hc0 hs hx hnew hrp hri
 go_enter Tryz.func61, Tryz.ntmps61
 go_wp2_with fail
 refine HVAL.out.mono ?_
 rintro e V ⟨rfl, hb⟩
 have HX := Aside0.mk (blk_keep HX.out hb)
 have HB := Aside0.mk (below_more HB0.out hb)
 clear hb HVAL
 obtain ⟨x0, x1, x2, x3, x4, x5⟩ := box_cells HX.out
 have HR1 : Aside0 (Kd.C k35 (V.alloc (boxN x)) (some ⟨V.heap.size, 0, none⟩) 1 [x]) := ⟨(Kd.R_reads' (R_of_row (base := 0) (n := 1) (cap := 1) (l := [x]) rfl (Nat.zero_le _) (blk_new V (boxN x)) (Nat.le_refl _) (by decide) rfl rfl)).2.2⟩
 have HB2 := Aside0.mk (below_more (below_alloc (Below.refl _ V) (boxN x)) (below_alloc (Below.refl _ (V.alloc (boxN x))) (.cells #[.slice A0 n c0, .slice (some ⟨V.heap.size, 0, none⟩) 1 1] 22 (0, 0))))
 have hpair := blk_new (V.alloc (boxN x)) (.cells #[.slice A0 n c0, .slice (some ⟨V.heap.size, 0, none⟩) 1 1] 22 (0, 0))
 rw [World.size_alloc] at hpair
 have HCC := Aside0.mk (Concat2.calls A0 c0 l (some ⟨V.heap.size, 0, none⟩) 1 [x] (V.heap.size + 1) _ (by rw [Hn.out]; exact hpair) (by rw [Hn.out]; exact Kd.C_below HR.out (below_more HB.out HB2.out)) (Kd.C_below HR1.out (below_alloc (Below.refl _ _) _)) (by have := HL.out; simp only [List.length_cons, List.length_nil]; omega))
 clear hpair
 go_wp2_with fail
 refine HCC.out.mono ?_
 rintro e V3 ⟨v, rfl, hRv, hb⟩
 have HB3 := Aside0.mk (below_more (below_more HB.out HB2.out) hb)
 obtain ⟨A3, c3, rfl⟩ := RN.slice hRv
 obtain ⟨_, hle, hC⟩ := RN.C hRv
 have HO := Aside0.mk (store_Of.calls A3 c3 (l ++ [x]) r V3 hC hle (by have := HL.out; simp only [List.length_append, List.length_cons, List.length_nil]; omega) HOK.out HND.out HRP.out HRI.out)
 obtain ⟨m, Hm⟩ : ∃ m, Aside0 ((l ++ [x]).length = m) := ⟨_, ⟨rfl⟩⟩
 rw [Hm.out] at HO ⊢
 clear hRv hb hle hC HCC x0 x1 x2 x3 x4 x5
 go_wp2_with fail
 refine HO.out.mono ?_
 rintro e V4 ⟨v4, rfl, hR4, hb4⟩
 have HR4 := Aside0.mk (Kd.R_lower hR4 HB3.out.size)
 have HB4 := Aside0.mk (below_more HB3.out hb4)
 clear hR4 hb4 HO
 go_wp2
 go_ret2
 exact ⟨_, rfl, HR4.out, HB4.out⟩
end Go.Proofs.YtjlpaagnajmogaaGreat.PWalk
end
section
namespace Go.Proofs.YtjlpaagnajmogaaGreat.PWalk
end Go.Proofs.YtjlpaagnajmogaaGreat.PWalk
end
section
namespace Go.Proofs.YtjlpaagnajmogaaGreat.PWalk
end Go.Proofs.YtjlpaagnajmogaaGreat.PWalk
end
section
namespace Go.Proofs.YtjlpaagnajmogaaGreat.PWalk
open Go.RowKit Go.Proofs.YtjlpaagnajmogaaGreatW.PrintWords Go.Proofs.YtjlpaagnajmogaaGreatW.PrintLast Go.Proofs.YtjlpaagnajmogaaGreatW.PrintMore
set_option linter.unusedVariables false
set_option linter.unusedSimpArgs false
open Go.Shelf
attribute [local go_sem] Oper.semAt_some
def dotIs (d : Dot) (x : Node) : Bool := x.f0.f0 == d.f0 && x.f0.f1 == d.f1
theorem ord_is {ll : List Node} (hl : ll.length ≤ 1000000) : walk_Order.f ll = some (if storeOk ll = true then (nds (ordOf ll), 0) else ([], 2)) := by
 unfold walk_Order.f
 rw [if_pos hl]
 rfl
end Go.Proofs.YtjlpaagnajmogaaGreat.PWalk
end
section
namespace Go.Proofs.YtjlpaagnajmogaaGreat.PWalk
end Go.Proofs.YtjlpaagnajmogaaGreat.PWalk
end
section
namespace Go.Proofs.YtjlpaagnajmogaaGreat.PWalk
end Go.Proofs.YtjlpaagnajmogaaGreat.PWalk
end
section
namespace Go.Proofs.YtjlpaagnajmogaaGreat.PWalk
end Go.Proofs.YtjlpaagnajmogaaGreat.PWalk
end
section
namespace Go.Proofs.YtjlpaagnajmogaaGreat.PWalk
end Go.Proofs.YtjlpaagnajmogaaGreat.PWalk
end
