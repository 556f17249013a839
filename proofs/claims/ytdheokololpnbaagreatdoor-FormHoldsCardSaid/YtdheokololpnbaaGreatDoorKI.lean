/-
  The theorem of stage 13: the law FormHolds returns true for every list of nodes, where the program's words of flaws are laid as its text lays them. Part 9 of 9.
-/
import Derived.Test.YtdheokololpnbaaGreatDoorKH
import Derived.StillTailTactics
import Derived.Maps.OwnOps
import Derived.IntWalk
import Derived.RangeFuncNested
import Derived.RangeFuncBound
import Derived.RangeFuncCalls
import Derived.RangeFuncLeaves
import Derived.Shelf.Abstract
import Derived.Shelf.RegionOpen
import Derived.OwnWalkIn
import Derived.TacticsInMore
import Derived.LoopNIn
import Derived.LoopIn
import Derived.RangeFuncBox
import Derived.Maps.AppendAt
import Derived.Lib.BufferMore
import Derived.Laws.CopyRow
import Derived.LoopTactic
import Derived.Outline
import Derived.WalkKit
import Derived.Test.YtdheokololpnbaaGreatDoorRows
import Derived.Test.YtdheokololpnbaaGreatDoorTie
import Derived.Test.YtdheokololpnbaaGreatDoorCards
import Derived.ProofKit
import Derived.OpenShut
import Derived.ShutString
import Derived.ChangeOld
import Derived.Below
import Derived.SizedLaws
import Derived.Deep.DeepHandedRow
import Derived.Deep.Slices
import Derived.Lib.SmallJoins
section
namespace Go.Proofs.YtdheokololpnbaaGreatDoor.PWalk
open Go.RowKit Go.Proofs.YtdheokololpnbaaGreatDoorW.PrintWords Go.Proofs.YtdheokololpnbaaGreatDoorW.PrintLast Go.Proofs.YtdheokololpnbaaGreatDoorW.PrintMore
set_option linter.unusedVariables false
set_option linter.unusedSimpArgs false
open Go.Shelf
attribute [local go_sem] Oper.semAt_some
def wordList : List ByteArray := [⟨#[110, 111, 110, 101]⟩, ⟨#[110, 111, 100, 101]⟩, ⟨#[111, 114, 100, 101, 114]⟩, ⟨#[112, 97, 114, 101, 110, 116]⟩, ⟨#[116, 105, 109, 101]⟩]
/-- The variable holds the five words. -/
def WordsAt (w : World) : Prop := ∀ (i : Nat) (s : ByteArray), wordList[i]? = some s → w.cell? ⟨0, i, none⟩ = some (.string s)
theorem WordsAt.below {w W : World} (h : WordsAt w) (hb : Below w.heap.size w W) : WordsAt W := fun i s hi => pw_cell_below hb (h i s hi)
def wordOf (x : Int) : ByteArray := if x < 0 then ⟨#[]⟩ else if x ≥ 5 then ⟨#[]⟩ else (wordList[x.toNat]?).getD ⟨#[]⟩
set_option maxHeartbeats 1000000 in
set_option maxRecDepth 100000 in
theorem Word.walk (x : Int) (w : World) (hw : WordsAt w) : Calls Tryz.prog 17 #[.int .i64 x] w fun e w' => e = .returned (.string (wordOf x)) ∧ Drawn0 w w' := by
 have c0 : w.cell? ⟨0, 0, none⟩ = _ := hw 0 _ rfl
 have c1 : w.cell? ⟨0, 1, none⟩ = _ := hw 1 _ rfl
 have c2 : w.cell? ⟨0, 2, none⟩ = _ := hw 2 _ rfl
 have c3 : w.cell? ⟨0, 3, none⟩ = _ := hw 3 _ rfl
 have c4 : w.cell? ⟨0, 4, none⟩ = _ := hw 4 _ rfl
 clear hw
 obtain ⟨s, Hs⟩ : ∃ s, Aside0 (wordOf x = s) := ⟨_, ⟨rfl⟩⟩
 rw [Hs.out]
 by_cases h0 : x < 0
 ·
  have h0b : decide (x < 0) = true := decide_eq_true h0
  obtain rfl : s = ⟨#[]⟩ := by rw [← Hs.out, wordOf, if_pos h0]
  go_enter Tryz.func17, Tryz.ntmps17
  go_wp2
  go_ret
  exact ⟨rfl, Drawn0.refl _⟩
 ·
  by_cases h5 : x ≥ 5
  ·
   obtain rfl : s = ⟨#[]⟩ := by rw [← Hs.out, wordOf, if_neg h0, if_pos h5]
   go_enter Tryz.func17, Tryz.ntmps17
   go_wp2
   go_ret
   exact ⟨rfl, Drawn0.refl _⟩
  ·
   have hx : x = 0 ∨ x = 1 ∨ x = 2 ∨ x = 3 ∨ x = 4 := by omega
   rcases hx with rfl | rfl | rfl | rfl | rfl
   all_goals
    obtain rfl := Hs.out
    clear Hs h0 h5
    go_enter Tryz.func17, Tryz.ntmps17
    go_wp2
    go_ret
    exact ⟨rfl, Drawn0.refl _⟩
namespace K13
abbrev vd (a b : Int) : Value := .agg #[.int .i64 a, .int .i64 b]
def sel (b : Bool) (v : Value) : Value := if b then v else undef
@[simp] theorem sel_true (v : Value) : sel true v = v := rfl
@[simp] theorem sel_false (v : Value) : sel false v = undef := rfl
abbrev kA : Node := ⟨⟨1, 1⟩, ⟨0, 0⟩, 1, 97⟩
abbrev kB : Node := ⟨⟨1, 2⟩, ⟨1, 1⟩, 2, 0⟩
abbrev kC : Node := ⟨⟨2, 2⟩, ⟨1, 1⟩, 1, 99⟩
abbrev kD : Node := ⟨⟨1, 3⟩, ⟨9, 9⟩, 5, 100⟩
abbrev kE : Node := ⟨⟨1, 4⟩, ⟨2, 2⟩, 3, 101⟩
def kn : Nat → Node
 | 0 => kA
 | 1 => kB
 | 2 => kC
 | 3 => kD
 | _ => kE
def cellsN (x : Node) : Array Value := #[.int .i64 x.f0.f0, .int .i64 x.f0.f1, .int .i64 x.f1.f0, .int .i64 x.f1.f1, .int .i64 x.f2, .int .i32 x.f3]
def zeroN : Array Value := #[.int .i64 0, .int .i64 0, .int .i64 0, .int .i64 0, .int .i64 0, .int .i32 0]
def upd (b : Nat → Nat) (j x : Nat) : Nat → Nat := fun i => if i = j then x else b i
/-- What lies where: the root's box, and the nodes' boxes so far. -/
structure Boxes (w : World) (B1 : Nat) (al st : Nat → Bool) (b : Nat → Nat) (W : World) : Prop where
 below : Below w.heap.size w W
 root : w.heap.size ≤ B1 ∧ W.heap[B1]? = some (.cells #[.int .i64 0, .int .i64 0] 33 (0, 0))
 box : ∀ j, j < 5 → al j = true → w.heap.size ≤ b j ∧ W.heap[b j]? = some (.cells (if st j then cellsN (kn j) else zeroN) 35 (0, 0))
 order : ∀ j, j < 5 → st j = true → al j = true
 apart : ∀ i j, i < 5 → j < 5 → i ≠ j → al i = true → al j = true → b i ≠ b j
theorem Boxes.keep {w : World} {B1 : Nat} {al st : Nat → Bool} {b : Nat → Nat} {W V : World} (h : Boxes w B1 al st b W) (hb : Below W.heap.size W V) : Boxes w B1 al st b V :=
 ⟨below_more h.below hb, ⟨h.root.1, blk_keep h.root.2 hb⟩, fun j hj hl => ⟨(h.box j hj hl).1, blk_keep (h.box j hj hl).2 hb⟩, h.order, h.apart⟩
theorem Boxes.turn {w : World} {B1 : Nat} {al st al' st' : Nat → Bool} {b : Nat → Nat} {W : World} (h : Boxes w B1 al st b W) (ha : ∀ j, j < 5 → al' j = al j) (hs : ∀ j, j < 5 → st' j = st j) : Boxes w B1 al' st' b W :=
 ⟨h.below, h.root, fun j hj hl => by rw [hs j hj]; exact h.box j hj ((ha j hj).symm.trans hl), fun j hj hl => (ha j hj).trans (h.order j hj ((hs j hj).symm.trans hl)), fun i j hi hj hne h1 h2 => h.apart i j hi hj hne ((ha i hi).symm.trans h1) ((ha j hj).symm.trans h2)⟩
theorem Boxes.alloc {w : World} {B1 : Nat} {al st al' : Nat → Bool} {b : Nat → Nat} {W : World} (h : Boxes w B1 al st b W) (n : Nat) (hn : n < 5) (hf : al n = false) (ha : ∀ j, j < 5 → al' j = (if j = n then true else al j)) :
  Boxes w B1 al' st (upd b n W.heap.size) (W.alloc (.cells zeroN 35 (0, 0))) :=
 have hs : st n = false := by
  cases hh : st n with
  | false => rfl
  | true => rw [h.order n hn hh] at hf; cases hf
 ⟨below_alloc h.below _, ⟨h.root.1, blk_alloc h.root.2 _⟩, fun j hj hl => by
  by_cases e : j = n
  ·
   subst e; rw [hs]; simp only [upd, if_true]; exact ⟨h.below.size, blk_new _ _⟩
  ·
   rw [ha j hj, if_neg e] at hl
   simp only [upd, if_neg e]
   exact ⟨(h.box j hj hl).1, blk_alloc (h.box j hj hl).2 _⟩, fun j hj hl => by
  rw [ha j hj]
  split
  ·
   rfl
  ·
   exact h.order j hj hl, fun i j hi hj hne h1 h2 => by
  rw [ha i hi] at h1
  rw [ha j hj] at h2
  unfold upd
  by_cases e1 : i = n <;> by_cases e2 : j = n
  ·
   omega
  ·
   rw [if_neg e2] at h2
   have := blk_lt (h.box j hj h2).2
   simp only [e1, e2, if_true, if_false]; omega
  ·
   rw [if_neg e1] at h1
   have := blk_lt (h.box i hi h1).2
   simp only [e1, e2, if_true, if_false]; omega
  ·
   rw [if_neg e1] at h1
   rw [if_neg e2] at h2
   simp only [e1, e2, if_false]; exact h.apart i j hi hj hne h1 h2⟩
/-- A world in which the box of n alone has turned. -/
theorem Boxes.store {w : World} {B1 : Nat} {al st st' : Nat → Bool} {b : Nat → Nat} {W V : World} (h : Boxes w B1 al st b W) (n : Nat) (hn : n < 5) (hal : al n = true) (hs : ∀ j, j < 5 → st' j = (if j = n then true else st j))
  (hg : W.grownBy V (some (b n))) (hv : V.heap[b n]? = some (.cells (cellsN (kn n)) 35 (0, 0))) : Boxes w B1 al st' b V :=
 ⟨h.below.grown hg h.below.size (fun k e => by cases e; exact (h.box n hn hal).1), ⟨h.root.1, (hg.block _ (blk_lt h.root.2) (fun e => by
  have h1 := h.root.2
  rw [Option.some.inj e, (h.box n hn hal).2] at h1
  exact absurd (Obj.cells.inj (Option.some.inj h1)).2.1 (by decide))).trans h.root.2⟩, fun j hj hl => by
  rw [hs j hj]
  by_cases e : j = n
  ·
   subst e; simp only [if_true]; exact ⟨(h.box j hj hl).1, hv⟩
  ·
   rw [if_neg e]
   exact ⟨(h.box j hj hl).1, (hg.block _ (blk_lt (h.box j hj hl).2) (fun e' => h.apart j n hj hn e hl hal (Option.some.inj e'))).trans (h.box j hj hl).2⟩, fun j hj hl => by
  rw [hs j hj] at hl
  by_cases e : j = n
  ·
   subst e; exact hal
  ·
   rw [if_neg e] at hl; exact h.order j hj hl, h.apart⟩
def alF (L : Array Bool) (j : Nat) : Bool := L.getD (15 + j) false
def stF (L : Array Bool) (j : Nat) : Bool := L.getD (20 + j) false
theorem getD_set (L : Array Bool) (i k : Nat) : (L.setIfInBounds i true).getD k false = if i = k then decide (i < L.size) else L.getD k false := by
 rw [Array.getD_eq_getD_getElem?, Array.getD_eq_getD_getElem?, Array.getElem?_setIfInBounds]
 by_cases e : i = k
 ·
  subst e; by_cases h : i < L.size <;> simp [h]
 ·
  simp [e]
theorem alF_set (L : Array Bool) (i j : Nat) (h : i ≠ 15 + j) : alF (L.setIfInBounds i true) j = alF L j := by unfold alF; rw [getD_set, if_neg h]
theorem stF_set (L : Array Bool) (i j : Nat) (h : i ≠ 20 + j) : stF (L.setIfInBounds i true) j = stF L j := by unfold stF; rw [getD_set, if_neg h]
theorem alF_new (L : Array Bool) (n j : Nat) (h : 15 + n < L.size) : alF (L.setIfInBounds (15 + n) true) j = if j = n then true else alF L j := by
 unfold alF; rw [getD_set]
 by_cases e : j = n
 ·
  subst e; simp [h]
 ·
  rw [if_neg (by omega), if_neg e]
theorem stF_new (L : Array Bool) (n j : Nat) (h : 20 + n < L.size) : stF (L.setIfInBounds (20 + n) true) j = if j = n then true else stF L j := by
 unfold stF; rw [getD_set]
 by_cases e : j = n
 ·
  subst e; simp [h]
 ·
  rw [if_neg (by omega), if_neg e]
/-- An operation that makes no box and stores in none. -/
theorem Boxes.other {w : World} {B1 : Nat} {L : Array Bool} {b : Nat → Nat} {W V : World} (h : Boxes w B1 (alF L) (stF L) b W) (hb : Below W.heap.size W V) (i : Nat) (hi : i < 15) : Boxes w B1 (alF (L.setIfInBounds i true)) (stF (L.setIfInBounds i true)) b V :=
 (h.keep hb).turn (fun j _ => alF_set L i j (by omega)) (fun j _ => stF_set L i j (by omega))
theorem Boxes.made {w : World} {B1 : Nat} {L : Array Bool} {b : Nat → Nat} {W : World} (h : Boxes w B1 (alF L) (stF L) b W) (n : Nat) (hn : n < 5) (hL : L.size = 25) (hf : L.getD (15 + n) true = false) : Boxes w B1 (alF (L.setIfInBounds (15 + n) true)) (stF (L.setIfInBounds (15 + n) true)) (upd b n W.heap.size) (W.alloc (.cells zeroN 35 (0, 0))) := by
 refine (h.alloc (al' := alF (L.setIfInBounds (15 + n) true)) n hn ?_ (fun j _ => alF_new L n j (by omega))).turn (fun _ _ => rfl) (fun j _ => stF_set L _ j (by omega))
 unfold alF
 rw [Array.getD_eq_getD_getElem?, Array.getElem?_eq_getElem (by omega)] at hf ⊢
 exact hf
theorem Boxes.stored {w : World} {B1 : Nat} {L : Array Bool} {b : Nat → Nat} {W V : World} (h : Boxes w B1 (alF L) (stF L) b W) (n : Nat) (hn : n < 5) (hL : L.size = 25) (hf : L.getD (15 + n) false = true)
  (hg : W.grownBy V (some (b n))) (hv : V.heap[b n]? = some (.cells (cellsN (kn n)) 35 (0, 0))) : Boxes w B1 (alF (L.setIfInBounds (20 + n) true)) (stF (L.setIfInBounds (20 + n) true)) b V :=
 (h.store (st' := stF (L.setIfInBounds (20 + n) true)) n hn hf (fun j _ => stF_new L n j (by omega)) hg hv).turn (fun j hj => alF_set L _ j (by omega)) (fun _ _ => rfl)
theorem grown_set {V W : World} {g : Nat} (h : V.grownBy W (some g)) (j : Nat) (u : Value) : V.grownBy (W.setCell ⟨g, j, none⟩ u) (some g) :=
 ⟨h.os, h.tape, h.output, by rw [World.size_setCell]; exact h.size, fun k hk hne => (Below.heap_setCell W _ u k (fun e => hne (by rw [e]))).trans (h.block k hk hne)⟩
def knownInv (w : World) (B1 : Nat) (L : Array Bool) (a : Act) (W : World) : Prop := ∃ (l0 l1 l2 l3 l4 l5 l6 l7 l8 l9 l10 l11 l12 l13 l14 l15 l16 l17 l18 l19 l20 l21 l22 l23 l24 : Bool) (b : Nat → Nat), L = #[l0, l1, l2, l3, l4, l5, l6, l7, l8, l9, l10, l11, l12, l13, l14, l15, l16, l17, l18, l19, l20, l21, l22, l23, l24] ∧ a = { tmps := #[.bool false, .pointer (some ⟨B1, 0, none⟩), sel l15 (.pointer (some ⟨(b 0), 0, none⟩)), sel l16 (.pointer (some ⟨(b 1), 0, none⟩)), sel l17 (.pointer (some ⟨(b 2), 0, none⟩)), sel l18 (.pointer (some ⟨(b 3), 0, none⟩)), sel l19 (.pointer (some ⟨(b 4), 0, none⟩)), undef, vd 0 0, sel l0 (vd 1 1), sel l1 (vd 0 0), sel l2 (vNode kA), sel l3 (vd 1 2), sel l4 (vd 1 1), sel l5 (vNode kB), sel l6 (vd 2 2), sel l7 (vd 1 1), sel l8 (vNode kC), sel l9 (vd 1 3), sel l10 (vd 9 9), sel l11 (vNode kD), sel l12 (vd 1 4), sel l13 (vd 2 2), sel l14 (vNode kE), undef, undef, undef, undef, undef, undef, undef, undef, undef, undef, undef, undef, undef, undef, undef, undef, undef, undef, undef, undef, undef, undef, undef, undef, undef, undef, undef, undef, undef, undef, undef, undef, undef, undef, undef, undef, undef, undef, undef, undef, undef, undef, undef, undef, undef, undef, undef, undef, undef, undef, undef, undef, undef, undef, undef, undef, undef, undef, undef, undef, undef, undef, undef, undef, undef, undef, undef, undef, undef, undef, undef, undef, undef, undef, undef, undef, undef, undef, undef, undef, undef, undef, undef, undef, undef], defers := [] } ∧ Aside0 (Boxes w B1 (alF L) (stF L) b W)
structure Five (w : World) (g0 g1 g2 g3 g4 : Nat) (W : World) : Prop where
 below : Below w.heap.size w W
 b0 : W.heap[g0]? = some (.cells (cellsN kA) 35 (0, 0))
 b1 : W.heap[g1]? = some (.cells (cellsN kB) 35 (0, 0))
 b2 : W.heap[g2]? = some (.cells (cellsN kC) 35 (0, 0))
 b3 : W.heap[g3]? = some (.cells (cellsN kD) 35 (0, 0))
 b4 : W.heap[g4]? = some (.cells (cellsN kE) 35 (0, 0))
theorem Five.keep {w : World} {g0 g1 g2 g3 g4 : Nat} {W V : World} (h : Five w g0 g1 g2 g3 g4 W) (hb : Below W.heap.size W V) : Five w g0 g1 g2 g3 g4 V :=
 ⟨below_more h.below hb, blk_keep h.b0 hb, blk_keep h.b1 hb, blk_keep h.b2 hb, blk_keep h.b3 hb, blk_keep h.b4 hb⟩
abbrev kF : Node := ⟨⟨1, 2⟩, ⟨1, 2⟩, 1, 0⟩
def xs6 : Nat → List Node
 | 2 => [kA, kA]
 | 3 => [kA, kA]
 | 11 => [kB, kA]
 | 12 => [kB, kA]
 | _ => [kA, kF]
def fs6 : Nat → List Fault
 | 5 => [⟨1, 2⟩]
 | 14 => [⟨1, 2⟩]
 | _ => [⟨1, 1⟩]
def updV (u : Nat → Value) (j : Nat) (x : Value) : Nat → Value := fun i => if i = j then x else u i
/-- The literal slices that have come up so far, and what nodes has handed back of them. -/
structure Lits (w : World) (g0 g1 g2 g3 g4 : Nat) (v7 : Value) (L : Array Bool) (u : Nat → Value) (W : World) : Prop where
 five : Five w g0 g1 g2 g3 g4 W
 seven : Kd.R k35 35 W w.heap.size (fun _ => True) v7 [kA, kB, kC, kD, kE]
 nod : ∀ i, i ∈ [2, 3, 11, 12, 23, 24] → L.getD i false = true → Kd.R k35 35 W w.heap.size (fun _ => True) (u i) (xs6 i)
 fau : ∀ i, i ∈ [5, 14, 26] → L.getD i false = true → Kd.R k44 44 W w.heap.size (fun _ => True) (u i) (fs6 i)
theorem Lits.other {w : World} {g0 g1 g2 g3 g4 : Nat} {v7 : Value} {L : Array Bool} {u : Nat → Value} {W V : World} (h : Lits w g0 g1 g2 g3 g4 v7 L u W) (hb : Below W.heap.size W V) (i : Nat) (hi : i ∉ [2, 3, 11, 12, 23, 24, 5, 14, 26]) : Lits w g0 g1 g2 g3 g4 v7 (L.setIfInBounds i true) u V :=
 ⟨h.five.keep hb, Kd.R_below h.seven hb, fun j hj hl => Kd.R_below (h.nod j hj (by rw [getD_set, if_neg (fun e => hi (by subst e; simp at hj ⊢; omega))] at hl; exact hl)) hb, fun j hj hl => Kd.R_below (h.fau j hj (by rw [getD_set, if_neg (fun e => hi (by subst e; simp at hj ⊢; omega))] at hl; exact hl)) hb⟩
theorem Lits.addN {w : World} {g0 g1 g2 g3 g4 : Nat} {v7 : Value} {L : Array Bool} {u : Nat → Value} {W V : World} (h : Lits w g0 g1 g2 g3 g4 v7 L u W) (hb : Below W.heap.size W V) (i : Nat) (hi : i ∉ [5, 14, 26]) (v : Value) (hv : Kd.R k35 35 V w.heap.size (fun _ => True) v (xs6 i)) :
  Lits w g0 g1 g2 g3 g4 v7 (L.setIfInBounds i true) (updV u i v) V :=
 ⟨h.five.keep hb, Kd.R_below h.seven hb, fun j hj hl => by
  unfold updV
  by_cases e : j = i
  ·
   subst e; rw [if_pos rfl]; exact hv
  ·
   rw [if_neg e]; rw [getD_set, if_neg (fun e' => e e'.symm)] at hl; exact Kd.R_below (h.nod j hj hl) hb, fun j hj hl => by
  unfold updV
  by_cases e : j = i
  ·
   subst e; exact absurd hj hi
  ·
   rw [if_neg e]; rw [getD_set, if_neg (fun e' => e e'.symm)] at hl; exact Kd.R_below (h.fau j hj hl) hb⟩
theorem Lits.addF {w : World} {g0 g1 g2 g3 g4 : Nat} {v7 : Value} {L : Array Bool} {u : Nat → Value} {W V : World} (h : Lits w g0 g1 g2 g3 g4 v7 L u W) (hb : Below W.heap.size W V) (i : Nat) (hi : i ∉ [2, 3, 11, 12, 23, 24]) (v : Value) (hv : Kd.R k44 44 V w.heap.size (fun _ => True) v (fs6 i)) :
  Lits w g0 g1 g2 g3 g4 v7 (L.setIfInBounds i true) (updV u i v) V :=
 ⟨h.five.keep hb, Kd.R_below h.seven hb, fun j hj hl => by
  unfold updV
  by_cases e : j = i
  ·
   subst e; exact absurd hj hi
  ·
   rw [if_neg e]; rw [getD_set, if_neg (fun e' => e e'.symm)] at hl; exact Kd.R_below (h.nod j hj hl) hb, fun j hj hl => by
  unfold updV
  by_cases e : j = i
  ·
   subst e; rw [if_pos rfl]; exact hv
  ·
   rw [if_neg e]; rw [getD_set, if_neg (fun e' => e e'.symm)] at hl; exact Kd.R_below (h.fau j hj hl) hb⟩
def known6Inv (w : World) (B1 g0 g1 g2 g3 g4 : Nat) (v7 : Value) (L : Array Bool) (a : Act) (W : World) : Prop := ∃ (l0 l1 l2 l3 l4 l5 l6 l7 l8 l9 l10 l11 l12 l13 l14 l15 l16 l17 l18 l19 l20 l21 l22 l23 l24 l25 l26 l27 l28 l29 : Bool) (u z : Nat → Value), L = #[l0, l1, l2, l3, l4, l5, l6, l7, l8, l9, l10, l11, l12, l13, l14, l15, l16, l17, l18, l19, l20, l21, l22, l23, l24, l25, l26, l27, l28, l29] ∧ a = { tmps := #[.bool false, .pointer (some ⟨B1, 0, none⟩), .pointer (some ⟨g0, 0, none⟩), .pointer (some ⟨g1, 0, none⟩), .pointer (some ⟨g2, 0, none⟩), .pointer (some ⟨g3, 0, none⟩), .pointer (some ⟨g4, 0, none⟩), v7, (z 8), (z 9), (z 10), (z 11), (z 12), (z 13), (z 14), (z 15), (z 16), (z 17), (z 18), (z 19), (z 20), (z 21), (z 22), (z 23), (z 24), (z 25), (z 26), (z 27), (z 28), (z 29), (z 30), (z 31), (z 32), (z 33), (z 34), (z 35), (z 36), (z 37), (z 38), (z 39), (z 40), (z 41), (z 42), (z 43), (z 44), (z 45), (z 46), (z 47), (z 48), (z 49), (z 50), (z 51), (z 52), (z 53), (z 54), (z 55), (z 56), (z 57), sel l0 (vNode kA), sel l1 (vNode kA), sel l2 ((u 2)), sel l3 ((u 3)), sel l4 (vFault ⟨1, 2⟩), sel l5 ((u 5)), sel l6 (.bool true), sel l7 (.bool false), sel l8 (.bool false), sel l9 (vNode kB), sel l10 (vNode kA), sel l11 ((u 11)), sel l12 ((u 12)), sel l13 (vFault ⟨1, 2⟩), sel l14 ((u 14)), sel l15 (.bool true), sel l16 (.bool false), sel l17 (.bool false), sel l18 (.bool false), sel l19 (vNode kA), sel l20 (vd 1 2), sel l21 (vd 1 2), sel l22 (vNode kF), sel l23 ((u 23)), sel l24 ((u 24)), sel l25 (vFault ⟨1, 1⟩), sel l26 ((u 26)), sel l27 (.bool true), sel l28 (.bool false), sel l29 (.bool false), undef, undef, undef, undef, undef, undef, undef, undef, undef, undef, undef, undef, undef, undef, undef, undef, undef, undef, undef, undef, undef], defers := [] } ∧ Aside0 (Lits w g0 g1 g2 g3 g4 v7 L u W)
theorem known6_start {w : World} {B1 g0 g1 g2 g3 g4 : Nat} {v7 : Value} {W : World} (a : Act) (h : a = { tmps := #[.bool false, .pointer (some ⟨B1, 0, none⟩), .pointer (some ⟨g0, 0, none⟩), .pointer (some ⟨g1, 0, none⟩), .pointer (some ⟨g2, 0, none⟩), .pointer (some ⟨g3, 0, none⟩), .pointer (some ⟨g4, 0, none⟩), v7, (a.tmps.getD 8 undef), (a.tmps.getD 9 undef), (a.tmps.getD 10 undef), (a.tmps.getD 11 undef), (a.tmps.getD 12 undef), (a.tmps.getD 13 undef), (a.tmps.getD 14 undef), (a.tmps.getD 15 undef), (a.tmps.getD 16 undef), (a.tmps.getD 17 undef), (a.tmps.getD 18 undef), (a.tmps.getD 19 undef), (a.tmps.getD 20 undef), (a.tmps.getD 21 undef), (a.tmps.getD 22 undef), (a.tmps.getD 23 undef), (a.tmps.getD 24 undef), (a.tmps.getD 25 undef), (a.tmps.getD 26 undef), (a.tmps.getD 27 undef), (a.tmps.getD 28 undef), (a.tmps.getD 29 undef), (a.tmps.getD 30 undef), (a.tmps.getD 31 undef), (a.tmps.getD 32 undef), (a.tmps.getD 33 undef), (a.tmps.getD 34 undef), (a.tmps.getD 35 undef), (a.tmps.getD 36 undef), (a.tmps.getD 37 undef), (a.tmps.getD 38 undef), (a.tmps.getD 39 undef), (a.tmps.getD 40 undef), (a.tmps.getD 41 undef), (a.tmps.getD 42 undef), (a.tmps.getD 43 undef), (a.tmps.getD 44 undef), (a.tmps.getD 45 undef), (a.tmps.getD 46 undef), (a.tmps.getD 47 undef), (a.tmps.getD 48 undef), (a.tmps.getD 49 undef), (a.tmps.getD 50 undef), (a.tmps.getD 51 undef), (a.tmps.getD 52 undef), (a.tmps.getD 53 undef), (a.tmps.getD 54 undef), (a.tmps.getD 55 undef), (a.tmps.getD 56 undef), (a.tmps.getD 57 undef), sel false (vNode kA), sel false (vNode kA), sel false (undef), sel false (undef), sel false (vFault ⟨1, 2⟩), sel false (undef), sel false (.bool true), sel false (.bool false), sel false (.bool false), sel false (vNode kB), sel false (vNode kA), sel false (undef), sel false (undef), sel false (vFault ⟨1, 2⟩), sel false (undef), sel false (.bool true), sel false (.bool false), sel false (.bool false), sel false (.bool false), sel false (vNode kA), sel false (vd 1 2), sel false (vd 1 2), sel false (vNode kF), sel false (undef), sel false (undef), sel false (vFault ⟨1, 1⟩), sel false (undef), sel false (.bool true), sel false (.bool false), sel false (.bool false), undef, undef, undef, undef, undef, undef, undef, undef, undef, undef, undef, undef, undef, undef, undef, undef, undef, undef, undef, undef, undef], defers := [] }) (h5 : Five w g0 g1 g2 g3 g4 W) (h7 : Kd.R k35 35 W w.heap.size (fun _ => True) v7 [kA, kB, kC, kD, kE]) : known6Inv w B1 g0 g1 g2 g3 g4 v7 (Array.replicate 30 false) a W :=
 ⟨false, false, false, false, false, false, false, false, false, false, false, false, false, false, false, false, false, false, false, false, false, false, false, false, false, false, false, false, false, false, fun _ => undef, fun i => a.tmps.getD i undef, rfl, h, ⟨⟨h5, h7, fun j hj h => absurd h (by simp at hj; rcases hj with rfl | rfl | rfl | rfl | rfl | rfl <;> decide), fun j hj h => absurd h (by simp at hj; rcases hj with rfl | rfl | rfl <;> decide)⟩⟩⟩
theorem box_cells {V : World} {g : Nat} {x : Node} (h : V.heap[g]? = some (.cells (cellsN x) 35 (0, 0))) :
  V.cell? ⟨g, 0, none⟩ = some (.int .i64 x.f0.f0) ∧ V.cell? ⟨g, 1, none⟩ = some (.int .i64 x.f0.f1) ∧ V.cell? ⟨g, 2, none⟩ = some (.int .i64 x.f1.f0) ∧ V.cell? ⟨g, 3, none⟩ = some (.int .i64 x.f1.f1) ∧ V.cell? ⟨g, 4, none⟩ = some (.int .i64 x.f2) ∧ V.cell? ⟨g, 5, none⟩ = some (.int .i32 x.f3) :=
 ⟨(blk_cell h 0).trans rfl, (blk_cell h 1).trans rfl, (blk_cell h 2).trans rfl, (blk_cell h 3).trans rfl, (blk_cell h 4).trans rfl, (blk_cell h 5).trans rfl⟩
/-- A slice of nodes that was laid just now. -/
theorem lit_nodes (W : World) (base : Nat) (hb : base ≤ W.heap.size) (xs : List Node) (n : Nat) (hn : xs.length = n) (hp : 0 < n) (hm : n ≤ 1000000) (cs : Array Value) (hcs : cs.toList = cellsOf xs) :
  Kd.R k35 35 (W.alloc (.cells cs 35 (0, 0))) base (fun _ => True) (.slice (some ⟨W.heap.size, 0, none⟩) n n) xs := by
 subst hn
 have hsz : cs.size = xs.length * 6 := by rw [← Array.length_toList, hcs, cellsOf_length]
 refine R_of_cells ⟨cellsOf_length _, .inr ⟨W.heap.size, xs.length, cs, rfl, hb, blk_new _ _, Nat.le_refl _, (show xs.length ≤ 9223372036854775807 by omega), hsz, ?_⟩⟩ (fun _ _ => trivial)
 rw [← hcs, List.take_of_length_le (by rw [Array.length_toList]; omega)]
def cellsOfF (l : List Fault) : List Value := l.flatMap fun x => [.int .i64 x.f0, .int .i64 x.f1]
theorem cellsOfF_length (l : List Fault) : (cellsOfF l).length = l.length * 2 := by
 induction l with
 | nil => rfl
 | cons x l ih => rw [cellsOfF, List.flatMap_cons, List.length_append, ← cellsOfF, ih]; simp; omega
theorem cellsOfF_drop_take (l : List Fault) (j : Nat) (x : Fault) (h : l[j]? = some x) : ((cellsOfF l).drop (j * 2)).take 2 = [.int .i64 x.f0, .int .i64 x.f1] := by
 induction l generalizing j with
 | nil => simp at h
 | cons y l ih =>
  cases j with
  | zero => simp at h; subst h; simp [cellsOfF]
  | succ j =>
   simp at h
   rw [show (j + 1) * 2 = 2 + j * 2 from by omega, cellsOfF, List.flatMap_cons, ← cellsOfF, ← List.drop_drop, List.drop_left' (by simp)]
   exact ih j h
theorem lit_faults (W : World) (base : Nat) (hb : base ≤ W.heap.size) (xs : List Fault) (n : Nat) (hn : xs.length = n) (hp : 0 < n) (hm : n ≤ 1000000) (cs : Array Value) (hcs : cs.toList = cellsOfF xs) :
  Kd.R k44 44 (W.alloc (.cells cs 44 (0, 0))) base (fun _ => True) (.slice (some ⟨W.heap.size, 0, none⟩) n n) xs := by
 subst hn
 have hsz : cs.size = xs.length * 2 := by rw [← Array.length_toList, hcs, cellsOfF_length]
 refine ⟨fun _ _ => trivial, cellsOfF xs, ⟨cellsOfF_length _, .inr ⟨W.heap.size, xs.length, cs, rfl, hb, blk_new _ _, Nat.le_refl _, (show xs.length ≤ 9223372036854775807 by omega), hsz, ?_⟩⟩, cellsOfF_length xs, fun j p hj => ?_⟩
 ·
  rw [← hcs, List.take_of_length_le (Nat.le_of_eq (by rw [Array.length_toList]; exact hsz))]
 ·
  show (k44).M _ _ _ p (((cellsOfF xs).drop (j * 2)).take 2)
  rw [cellsOfF_drop_take xs j p hj]; exact k44_mkM _ _ _ p
theorem faults_call {w V : World} {v0 v1 : Value} {xs : List Node} {fs : List Fault} {b : Bool} (h0 : Kd.R k35 35 V w.heap.size (fun _ => True) v0 xs) (h1 : Kd.R k44 44 V w.heap.size (fun _ => True) v1 fs) (hf : redpencillaw13_faults.f 60 xs fs = some b) :
  Calls Tryz.prog 16 #[v0, v1] V fun e W => e = .returned (.bool b) ∧ Below V.heap.size V W := by
 obtain ⟨A, c, rfl, hc, hC⟩ := Kd.R_reads h0
 obtain ⟨A', c', rfl, hc', hC'⟩ := Kd.R_reads h1
 exact redpencillaw13_faults.calls 60 A c xs A' c' fs b V hC hc hC' hc' hf
theorem whole_call {w V : World} {v0 v1 : Value} {xs ys : List Node} {n : Int} {b : Bool} (h0 : Kd.R k35 35 V w.heap.size (fun _ => True) v0 xs) (h1 : Kd.R k35 35 V w.heap.size (fun _ => True) v1 ys) (hf : redpencillaw13_whole.f 60 xs ys n = some b) :
  Calls Tryz.prog 9 #[v0, v1, .int .i64 n] V fun e W => e = .returned (.bool b) ∧ Below V.heap.size V W := by
 obtain ⟨A, c, rfl, hc, hC⟩ := Kd.R_reads h0
 obtain ⟨A', c', rfl, hc', hC'⟩ := Kd.R_reads h1
 exact redpencillaw13_whole.calls 60 A c xs A' c' ys n b V hC hc hC' hc' hf
theorem ex1 : redpencillaw13_faults.f 60 [kA, kB] [] = some true := by kernel_rfl
theorem ex2 : redpencillaw13_faults.f 60 [] [] = some true := by kernel_rfl
theorem ex3 : redpencillaw13_faults.f 60 [kA, kB, kC, kD, kE] [⟨2, 4⟩, ⟨3, 3⟩] = some true := by kernel_rfl
theorem ex4 : redpencillaw13_faults.f 60 [kB] [⟨0, 3⟩] = some true := by kernel_rfl
theorem ex5 : redpencillaw13_whole.f 60 [kA, kB, kC, kD, kE] [kA, kB] 0 = some true := by kernel_rfl
theorem ex6 : redpencillaw13_whole.f 60 [kB, kA] [] 2 = some true := by kernel_rfl
theorem nodes_call {w V : World} {v : Value} {xs : List Node} (h : Kd.R k35 35 V w.heap.size (fun _ => True) v xs) : Calls Tryz.prog 15 #[v] V fun e W => e = .returned v ∧ Below V.heap.size V W := by
 obtain ⟨A, c, rfl⟩ := Kd.R_slice h
 go_enter Tryz.func15, Tryz.ntmps15
 go_wp2
 go_ret
 exact ⟨rfl, Below.refl _ _⟩
set_option maxHeartbeats 4000000 in
set_option maxRecDepth 100000 in
theorem known.walk (w : World) (hw : WordsAt w) : Calls Tryz.prog 4 #[] w fun e w' => e = .returned (.bool true) ∧ Below w.heap.size w w' := by
 have HW := Aside0.mk hw
 clear hw
 go_enter Tryz.func4, Tryz.ntmps4
 go_wp2_with fail
 refine AnyOrder.wp_region (by kernel_rfl) (knownInv w w.heap.size) ?start ?step ?last
 case start =>
  refine ⟨false, false, false, false, false, false, false, false, false, false, false, false, false, false, false, false, false, false, false, false, false, false, false, false, false, fun _ => 0, rfl, rfl, ⟨?_⟩⟩
  have hb : Below w.heap.size w (w.alloc (.cells #[.int .i64 0, .int .i64 0] 33 (0, 0))).drew := below_drew1 (below_alloc (Below.refl _ _) _)
  exact ⟨hb, ⟨Nat.le_refl _, blk_drew (blk_new _ _)⟩, fun j hj h => absurd h (by rcases j with _ | _ | _ | _ | _ | j <;> first | decide | omega), fun j hj h => absurd h (by rcases j with _ | _ | _ | _ | _ | j <;> first | decide | omega), fun i j hi hj hne h => absurd h (by rcases i with _ | _ | _ | _ | _ | i <;> first | decide | omega)⟩
 case last =>
  rintro L a V ⟨l0, l1, l2, l3, l4, l5, l6, l7, l8, l9, l10, l11, l12, l13, l14, l15, l16, l17, l18, l19, l20, l21, l22, l23, l24, b, rfl, rfl, HB⟩ hr
  have hall := AnyOrder.all_listed rfl (by kernel_rfl) hr
  clear hr
  obtain rfl : l0 = true := hall 0 (by decide)
  obtain rfl : l1 = true := hall 1 (by decide)
  obtain rfl : l2 = true := hall 2 (by decide)
  obtain rfl : l3 = true := hall 3 (by decide)
  obtain rfl : l4 = true := hall 4 (by decide)
  obtain rfl : l5 = true := hall 5 (by decide)
  obtain rfl : l6 = true := hall 6 (by decide)
  obtain rfl : l7 = true := hall 7 (by decide)
  obtain rfl : l8 = true := hall 8 (by decide)
  obtain rfl : l9 = true := hall 9 (by decide)
  obtain rfl : l10 = true := hall 10 (by decide)
  obtain rfl : l11 = true := hall 11 (by decide)
  obtain rfl : l12 = true := hall 12 (by decide)
  obtain rfl : l13 = true := hall 13 (by decide)
  obtain rfl : l14 = true := hall 14 (by decide)
  obtain rfl : l15 = true := hall 15 (by decide)
  obtain rfl : l16 = true := hall 16 (by decide)
  obtain rfl : l17 = true := hall 17 (by decide)
  obtain rfl : l18 = true := hall 18 (by decide)
  obtain rfl : l19 = true := hall 19 (by decide)
  obtain rfl : l20 = true := hall 20 (by decide)
  obtain rfl : l21 = true := hall 21 (by decide)
  obtain rfl : l22 = true := hall 22 (by decide)
  obtain rfl : l23 = true := hall 23 (by decide)
  obtain rfl : l24 = true := hall 24 (by decide)
  clear hall
  simp only [sel_true]
  obtain ⟨g0, Hg0⟩ : ∃ g, Aside0 (b 0 = g) := ⟨_, ⟨rfl⟩⟩
  obtain ⟨g1, Hg1⟩ : ∃ g, Aside0 (b 1 = g) := ⟨_, ⟨rfl⟩⟩
  obtain ⟨g2, Hg2⟩ : ∃ g, Aside0 (b 2 = g) := ⟨_, ⟨rfl⟩⟩
  obtain ⟨g3, Hg3⟩ : ∃ g, Aside0 (b 3 = g) := ⟨_, ⟨rfl⟩⟩
  obtain ⟨g4, Hg4⟩ : ∃ g, Aside0 (b 4 = g) := ⟨_, ⟨rfl⟩⟩
  have H5 : Aside0 (Five w g0 g1 g2 g3 g4 V) := ⟨⟨HB.out.below, by rw [← Hg0.out]; exact (HB.out.box 0 (by decide) rfl).2, by rw [← Hg1.out]; exact (HB.out.box 1 (by decide) rfl).2, by rw [← Hg2.out]; exact (HB.out.box 2 (by decide) rfl).2, by rw [← Hg3.out]; exact (HB.out.box 3 (by decide) rfl).2, by rw [← Hg4.out]; exact (HB.out.box 4 (by decide) rfl).2⟩⟩
  rw [Hg0.out, Hg1.out, Hg2.out, Hg3.out, Hg4.out]
  clear HB Hg0 Hg1 Hg2 Hg3 Hg4
  obtain ⟨c00, c01, c02, c03, c04, c05⟩ := box_cells H5.out.b0
  obtain ⟨c10, c11, c12, c13, c14, c15⟩ := box_cells H5.out.b1
  obtain ⟨c20, c21, c22, c23, c24, c25⟩ := box_cells H5.out.b2
  obtain ⟨c30, c31, c32, c33, c34, c35⟩ := box_cells H5.out.b3
  obtain ⟨c40, c41, c42, c43, c44, c45⟩ := box_cells H5.out.b4
  go_wp2_with fail
  clear c00 c01 c02 c03 c04 c05 c10 c11 c12 c13 c14 c15 c20 c21 c22 c23 c24 c25 c30 c31 c32 c33 c34 c35 c40 c41 c42 c43 c44 c45
  have R7 := lit_nodes V w.heap.size H5.out.below.size [kA, kB, kC, kD, kE] 5 rfl (by decide) (by decide) _ rfl
  refine (nodes_call R7).mono ?_
  rintro e W7 ⟨rfl, hb⟩
  have R7 := Aside0.mk (Kd.R_below R7 hb)
  have H5 := Aside0.mk ((H5.out.keep ((Below.refl _ _).alloc (Nat.le_refl _) _)).keep hb)
  clear hb
  obtain ⟨v7, HV7⟩ : ∃ v, Aside0 (Value.slice (some ⟨V.heap.size, 0, none⟩) 5 5 = v) := ⟨_, ⟨rfl⟩⟩
  rw [HV7.out] at R7 ⊢
  obtain ⟨c00, c01, c02, c03, c04, c05⟩ := box_cells H5.out.b0
  obtain ⟨c10, c11, c12, c13, c14, c15⟩ := box_cells H5.out.b1
  have h7 := R7.out
  have h5 := H5.out
  clear R7 H5
  have R7 := Aside0.mk h7
  have H5 := Aside0.mk h5
  clear h7 h5
  go_wp2_with fail
  clear c00 c01 c02 c03 c04 c05 c10 c11 c12 c13 c14 c15
  have A40 := lit_nodes W7 w.heap.size H5.out.below.size [kA, kB] 2 rfl (by decide) (by decide) _ rfl
  refine (nodes_call A40).mono ?_
  rintro e W40 ⟨rfl, hb⟩
  have hb2 := below_more ((Below.refl W7.heap.size W7).alloc (Nat.le_refl _) _) hb
  have R40 := Aside0.mk (Kd.R_below A40 hb)
  have H5 := Aside0.mk (H5.out.keep hb2)
  have R7 := Aside0.mk (Kd.R_below R7.out hb2)
  clear hb hb2 A40
  go_wp2_with fail
  refine (faults_call R40.out (Kd.R_nil _ _ _ _ _) ex1).mono ?_
  rintro e W41 ⟨rfl, hb⟩
  have H5 := Aside0.mk (H5.out.keep hb)
  have R7 := Aside0.mk (Kd.R_below R7.out hb)
  clear hb
  go_wp2_with fail
  refine (faults_call (w := w) (Kd.R_nil _ _ _ _ _) (Kd.R_nil _ _ _ _ _) ex2).mono ?_
  rintro e W42 ⟨rfl, hb⟩
  have H5 := Aside0.mk (H5.out.keep hb)
  have R7 := Aside0.mk (Kd.R_below R7.out hb)
  clear hb
  go_wp2_with fail
  have B43 := lit_faults W42 w.heap.size H5.out.below.size [⟨2, 4⟩, ⟨3, 3⟩] 2 rfl (by decide) (by decide) _ rfl
  have hb1 := (Below.refl W42.heap.size W42).alloc (Nat.le_refl _)
  refine (faults_call (Kd.R_below R7.out (hb1 _)) B43 ex3).mono ?_
  rintro e W43 ⟨rfl, hb⟩
  have hb2 := below_more (hb1 _) hb
  have H5 := Aside0.mk (H5.out.keep hb2)
  have R7 := Aside0.mk (Kd.R_below R7.out hb2)
  clear hb hb1 hb2 B43
  obtain ⟨c10, c11, c12, c13, c14, c15⟩ := box_cells H5.out.b1
  have h7 := R7.out
  have h5 := H5.out
  clear R7 H5
  have R7 := Aside0.mk h7
  have H5 := Aside0.mk h5
  clear h7 h5
  go_wp2_with fail
  clear c10 c11 c12 c13 c14 c15
  have A44 := lit_nodes W43 w.heap.size H5.out.below.size [kB] 1 rfl (by decide) (by decide) _ rfl
  refine (nodes_call A44).mono ?_
  rintro e W44 ⟨rfl, hb⟩
  have hb2 := below_more ((Below.refl W43.heap.size W43).alloc (Nat.le_refl _) _) hb
  have R44 := Aside0.mk (Kd.R_below A44 hb)
  have H5 := Aside0.mk (H5.out.keep hb2)
  have R7 := Aside0.mk (Kd.R_below R7.out hb2)
  clear hb hb2 A44
  go_wp2_with fail
  have B45 := lit_faults W44 w.heap.size H5.out.below.size [⟨0, 3⟩] 1 rfl (by decide) (by decide) _ rfl
  have hb1 := (Below.refl W44.heap.size W44).alloc (Nat.le_refl _)
  refine (faults_call (Kd.R_below R44.out (hb1 _)) B45 ex4).mono ?_
  rintro e W45 ⟨rfl, hb⟩
  have hb2 := below_more (hb1 _) hb
  have H5 := Aside0.mk (H5.out.keep hb2)
  have R7 := Aside0.mk (Kd.R_below R7.out hb2)
  clear hb hb1 hb2 B45
  clear R40 R44
  go_wp2_with fail
  refine AnyOrder.wp_region (by kernel_rfl) (known6Inv w w.heap.size g0 g1 g2 g3 g4 v7) ?start6 ?step6 ?last6
  case start6 => exact known6_start _ rfl (H5.out.keep (below_drew1 (Below.refl _ _))) (Kd.R_below R7.out (below_drew1 (Below.refl _ _)))
  case step6 =>
   clear H5 R7
   rintro L a V i ⟨l0, l1, l2, l3, l4, l5, l6, l7, l8, l9, l10, l11, l12, l13, l14, l15, l16, l17, l18, l19, l20, l21, l22, l23, l24, l25, l26, l27, l28, l29, u, z, rfl, rfl, HB⟩ hi K hK
   have h1 : i = 0 ∨ i = 1 ∨ i = 2 ∨ i = 3 ∨ i = 4 ∨ i = 5 ∨ i = 6 ∨ i = 7 ∨ i = 8 ∨ i = 9 ∨ i = 10 ∨ i = 11 ∨ i = 12 ∨ i = 13 ∨ i = 14 ∨ i = 15 ∨ i = 16 ∨ i = 17 ∨ i = 18 ∨ i = 19 ∨ i = 20 ∨ i = 21 ∨ i = 22 ∨ i = 23 ∨ i = 24 ∨ i = 25 ∨ i = 26 ∨ i = 27 ∨ i = 28 ∨ i = 29 := by
    have h1 := (AnyOrder.mem_ready hi).1
    clear hi hK
    change i < 30 at h1
    omega
   rcases h1 with rfl | rfl | rfl | rfl | rfl | rfl | rfl | rfl | rfl | rfl | rfl | rfl | rfl | rfl | rfl | rfl | rfl | rfl | rfl | rfl | rfl | rfl | rfl | rfl | rfl | rfl | rfl | rfl | rfl | rfl
   ·
    obtain rfl : l0 = false := (AnyOrder.mem_ready hi).2.1
    clear hi
    obtain ⟨c0, c1, c2, c3, c4, c5⟩ := box_cells HB.out.five.b0
    have hb := Below.refl V.heap.size V
    refine AnyOrder.wpOp_go rfl (by rfl) ?_
    go_wp2_with fail
    exact ⟨true, l1, l2, l3, l4, l5, l6, l7, l8, l9, l10, l11, l12, l13, l14, l15, l16, l17, l18, l19, l20, l21, l22, l23, l24, l25, l26, l27, l28, l29, u, z, rfl, rfl, ⟨HB.out.other hb 0 (by decide)⟩⟩
   ·
    obtain rfl : l1 = false := (AnyOrder.mem_ready hi).2.1
    clear hi
    obtain ⟨c0, c1, c2, c3, c4, c5⟩ := box_cells HB.out.five.b0
    have hb := Below.refl V.heap.size V
    refine AnyOrder.wpOp_go rfl (by rfl) ?_
    go_wp2_with fail
    exact ⟨l0, true, l2, l3, l4, l5, l6, l7, l8, l9, l10, l11, l12, l13, l14, l15, l16, l17, l18, l19, l20, l21, l22, l23, l24, l25, l26, l27, l28, l29, u, z, rfl, rfl, ⟨HB.out.other hb 1 (by decide)⟩⟩
   ·
    obtain rfl : l2 = false := (AnyOrder.mem_ready hi).2.1
    obtain rfl : l0 = true := AnyOrder.dep (q := 0) hi rfl rfl rfl
    obtain rfl : l1 = true := AnyOrder.dep (q := 1) hi rfl rfl rfl
    clear hi
    simp only [sel_true] at hK ⊢
    refine AnyOrder.wpOp_go rfl (by rfl) ?_
    go_wp2_with fail
    exact ⟨true, true, true, l3, l4, l5, l6, l7, l8, l9, l10, l11, l12, l13, l14, l15, l16, l17, l18, l19, l20, l21, l22, l23, l24, l25, l26, l27, l28, l29, updV u 2 _, z, rfl, rfl, ⟨HB.out.addN ((Below.refl _ _).alloc (Nat.le_refl _) _) 2 (by decide) _ (lit_nodes V w.heap.size HB.out.five.below.size [kA, kA] 2 rfl (by decide) (by decide) _ rfl)⟩⟩
   ·
    obtain rfl : l3 = false := (AnyOrder.mem_ready hi).2.1
    obtain rfl : l2 = true := AnyOrder.dep (q := 0) hi rfl rfl rfl
    clear hi
    simp only [sel_true] at hK ⊢
    refine AnyOrder.wpOp_go rfl (by rfl) ?_
    go_wp2_with fail
    refine (nodes_call (HB.out.nod 2 (by decide) rfl)).mono ?_
    rintro e V' ⟨rfl, hb⟩
    exact hK _ _ ⟨l0, l1, true, true, l4, l5, l6, l7, l8, l9, l10, l11, l12, l13, l14, l15, l16, l17, l18, l19, l20, l21, l22, l23, l24, l25, l26, l27, l28, l29, updV u 3 (u 2), z, rfl, rfl, ⟨HB.out.addN hb 3 (by decide) _ (Kd.R_below (HB.out.nod 2 (by decide) rfl) hb)⟩⟩
   ·
    obtain rfl : l4 = false := (AnyOrder.mem_ready hi).2.1
    clear hi
    have hb := Below.refl V.heap.size V
    refine AnyOrder.wpOp_go rfl (by rfl) ?_
    go_wp2_with fail
    exact ⟨l0, l1, l2, l3, true, l5, l6, l7, l8, l9, l10, l11, l12, l13, l14, l15, l16, l17, l18, l19, l20, l21, l22, l23, l24, l25, l26, l27, l28, l29, u, z, rfl, rfl, ⟨HB.out.other hb 4 (by decide)⟩⟩
   ·
    obtain rfl : l5 = false := (AnyOrder.mem_ready hi).2.1
    obtain rfl : l4 = true := AnyOrder.dep (q := 0) hi rfl rfl rfl
    clear hi
    simp only [sel_true] at hK ⊢
    refine AnyOrder.wpOp_go rfl (by rfl) ?_
    go_wp2_with fail
    exact ⟨l0, l1, l2, l3, true, true, l6, l7, l8, l9, l10, l11, l12, l13, l14, l15, l16, l17, l18, l19, l20, l21, l22, l23, l24, l25, l26, l27, l28, l29, updV u 5 _, z, rfl, rfl, ⟨HB.out.addF ((Below.refl _ _).alloc (Nat.le_refl _) _) 5 (by decide) _ (lit_faults V w.heap.size HB.out.five.below.size [⟨1, 2⟩] 1 rfl (by decide) (by decide) _ rfl)⟩⟩
   ·
    obtain rfl : l6 = false := (AnyOrder.mem_ready hi).2.1
    obtain rfl : l3 = true := AnyOrder.dep (q := 0) hi rfl rfl rfl
    obtain rfl : l5 = true := AnyOrder.dep (q := 1) hi rfl rfl rfl
    clear hi
    simp only [sel_true] at hK ⊢
    refine AnyOrder.wpOp_go rfl (by rfl) ?_
    go_wp2_with fail
    have hcall := faults_call (HB.out.nod 3 (by decide) rfl) (HB.out.fau 5 (by decide) rfl) (by kernel_rfl : redpencillaw13_faults.f 60 (xs6 3) (fs6 5) = some true)
    refine hcall.mono ?_
    rintro e V' ⟨rfl, hb⟩
    exact hK _ _ ⟨l0, l1, l2, true, l4, true, true, l7, l8, l9, l10, l11, l12, l13, l14, l15, l16, l17, l18, l19, l20, l21, l22, l23, l24, l25, l26, l27, l28, l29, u, z, rfl, rfl, ⟨HB.out.other hb 6 (by decide)⟩⟩
   ·
    obtain rfl : l7 = false := (AnyOrder.mem_ready hi).2.1
    obtain rfl : l6 = true := AnyOrder.dep (q := 0) hi rfl rfl rfl
    clear hi
    simp only [sel_true] at hK ⊢
    have hb := Below.refl V.heap.size V
    refine AnyOrder.wpOp_go rfl (by rfl) ?_
    go_wp2_with fail
    exact ⟨l0, l1, l2, l3, l4, l5, true, true, l8, l9, l10, l11, l12, l13, l14, l15, l16, l17, l18, l19, l20, l21, l22, l23, l24, l25, l26, l27, l28, l29, u, z, rfl, rfl, ⟨HB.out.other hb 7 (by decide)⟩⟩
   ·
    obtain rfl : l8 = false := (AnyOrder.mem_ready hi).2.1
    obtain rfl : l7 = true := AnyOrder.dep (q := 0) hi rfl rfl rfl
    clear hi
    simp only [sel_true] at hK ⊢
    have hb := Below.refl V.heap.size V
    refine AnyOrder.wpOp_go rfl (by rfl) ?_
    go_wp2_with fail
    exact ⟨l0, l1, l2, l3, l4, l5, l6, true, true, l9, l10, l11, l12, l13, l14, l15, l16, l17, l18, l19, l20, l21, l22, l23, l24, l25, l26, l27, l28, l29, u, z, rfl, rfl, ⟨HB.out.other hb 8 (by decide)⟩⟩
   ·
    obtain rfl : l9 = false := (AnyOrder.mem_ready hi).2.1
    obtain rfl : l8 = true := AnyOrder.dep (q := 0) hi rfl rfl rfl
    clear hi
    simp only [sel_true] at hK ⊢
    obtain ⟨c0, c1, c2, c3, c4, c5⟩ := box_cells HB.out.five.b1
    have hb := Below.refl V.heap.size V
    refine AnyOrder.wpOp_go rfl (by rfl) ?_
    go_wp2_with fail
    exact ⟨l0, l1, l2, l3, l4, l5, l6, l7, true, true, l10, l11, l12, l13, l14, l15, l16, l17, l18, l19, l20, l21, l22, l23, l24, l25, l26, l27, l28, l29, u, z, rfl, rfl, ⟨HB.out.other hb 9 (by decide)⟩⟩
   ·
    obtain rfl : l10 = false := (AnyOrder.mem_ready hi).2.1
    obtain rfl : l8 = true := AnyOrder.dep (q := 0) hi rfl rfl rfl
    clear hi
    simp only [sel_true] at hK ⊢
    obtain ⟨c0, c1, c2, c3, c4, c5⟩ := box_cells HB.out.five.b0
    have hb := Below.refl V.heap.size V
    refine AnyOrder.wpOp_go rfl (by rfl) ?_
    go_wp2_with fail
    exact ⟨l0, l1, l2, l3, l4, l5, l6, l7, true, l9, true, l11, l12, l13, l14, l15, l16, l17, l18, l19, l20, l21, l22, l23, l24, l25, l26, l27, l28, l29, u, z, rfl, rfl, ⟨HB.out.other hb 10 (by decide)⟩⟩
   ·
    obtain rfl : l11 = false := (AnyOrder.mem_ready hi).2.1
    obtain rfl : l9 = true := AnyOrder.dep (q := 0) hi rfl rfl rfl
    obtain rfl : l10 = true := AnyOrder.dep (q := 1) hi rfl rfl rfl
    obtain rfl : l8 = true := AnyOrder.dep (q := 2) hi rfl rfl rfl
    clear hi
    simp only [sel_true] at hK ⊢
    refine AnyOrder.wpOp_go rfl (by rfl) ?_
    go_wp2_with fail
    exact ⟨l0, l1, l2, l3, l4, l5, l6, l7, true, true, true, true, l12, l13, l14, l15, l16, l17, l18, l19, l20, l21, l22, l23, l24, l25, l26, l27, l28, l29, updV u 11 _, z, rfl, rfl, ⟨HB.out.addN ((Below.refl _ _).alloc (Nat.le_refl _) _) 11 (by decide) _ (lit_nodes V w.heap.size HB.out.five.below.size [kB, kA] 2 rfl (by decide) (by decide) _ rfl)⟩⟩
   ·
    obtain rfl : l12 = false := (AnyOrder.mem_ready hi).2.1
    obtain rfl : l11 = true := AnyOrder.dep (q := 0) hi rfl rfl rfl
    obtain rfl : l8 = true := AnyOrder.dep (q := 1) hi rfl rfl rfl
    clear hi
    simp only [sel_true] at hK ⊢
    refine AnyOrder.wpOp_go rfl (by rfl) ?_
    go_wp2_with fail
    refine (nodes_call (HB.out.nod 11 (by decide) rfl)).mono ?_
    rintro e V' ⟨rfl, hb⟩
    exact hK _ _ ⟨l0, l1, l2, l3, l4, l5, l6, l7, true, l9, l10, true, true, l13, l14, l15, l16, l17, l18, l19, l20, l21, l22, l23, l24, l25, l26, l27, l28, l29, updV u 12 (u 11), z, rfl, rfl, ⟨HB.out.addN hb 12 (by decide) _ (Kd.R_below (HB.out.nod 11 (by decide) rfl) hb)⟩⟩
   ·
    obtain rfl : l13 = false := (AnyOrder.mem_ready hi).2.1
    obtain rfl : l8 = true := AnyOrder.dep (q := 0) hi rfl rfl rfl
    clear hi
    simp only [sel_true] at hK ⊢
    have hb := Below.refl V.heap.size V
    refine AnyOrder.wpOp_go rfl (by rfl) ?_
    go_wp2_with fail
    exact ⟨l0, l1, l2, l3, l4, l5, l6, l7, true, l9, l10, l11, l12, true, l14, l15, l16, l17, l18, l19, l20, l21, l22, l23, l24, l25, l26, l27, l28, l29, u, z, rfl, rfl, ⟨HB.out.other hb 13 (by decide)⟩⟩
   ·
    obtain rfl : l14 = false := (AnyOrder.mem_ready hi).2.1
    obtain rfl : l13 = true := AnyOrder.dep (q := 0) hi rfl rfl rfl
    obtain rfl : l8 = true := AnyOrder.dep (q := 1) hi rfl rfl rfl
    clear hi
    simp only [sel_true] at hK ⊢
    refine AnyOrder.wpOp_go rfl (by rfl) ?_
    go_wp2_with fail
    exact ⟨l0, l1, l2, l3, l4, l5, l6, l7, true, l9, l10, l11, l12, true, true, l15, l16, l17, l18, l19, l20, l21, l22, l23, l24, l25, l26, l27, l28, l29, updV u 14 _, z, rfl, rfl, ⟨HB.out.addF ((Below.refl _ _).alloc (Nat.le_refl _) _) 14 (by decide) _ (lit_faults V w.heap.size HB.out.five.below.size [⟨1, 2⟩] 1 rfl (by decide) (by decide) _ rfl)⟩⟩
   ·
    obtain rfl : l15 = false := (AnyOrder.mem_ready hi).2.1
    obtain rfl : l12 = true := AnyOrder.dep (q := 0) hi rfl rfl rfl
    obtain rfl : l14 = true := AnyOrder.dep (q := 1) hi rfl rfl rfl
    obtain rfl : l8 = true := AnyOrder.dep (q := 3) hi rfl rfl rfl
    clear hi
    simp only [sel_true] at hK ⊢
    refine AnyOrder.wpOp_go rfl (by rfl) ?_
    go_wp2_with fail
    have hcall := faults_call (HB.out.nod 12 (by decide) rfl) (HB.out.fau 14 (by decide) rfl) (by kernel_rfl : redpencillaw13_faults.f 60 (xs6 12) (fs6 14) = some true)
    refine hcall.mono ?_
    rintro e V' ⟨rfl, hb⟩
    exact hK _ _ ⟨l0, l1, l2, l3, l4, l5, l6, l7, true, l9, l10, l11, true, l13, true, true, l16, l17, l18, l19, l20, l21, l22, l23, l24, l25, l26, l27, l28, l29, u, z, rfl, rfl, ⟨HB.out.other hb 15 (by decide)⟩⟩
   ·
    obtain rfl : l16 = false := (AnyOrder.mem_ready hi).2.1
    obtain rfl : l15 = true := AnyOrder.dep (q := 0) hi rfl rfl rfl
    obtain rfl : l8 = true := AnyOrder.dep (q := 1) hi rfl rfl rfl
    clear hi
    simp only [sel_true] at hK ⊢
    have hb := Below.refl V.heap.size V
    refine AnyOrder.wpOp_go rfl (by rfl) ?_
    go_wp2_with fail
    exact ⟨l0, l1, l2, l3, l4, l5, l6, l7, true, l9, l10, l11, l12, l13, l14, true, true, l17, l18, l19, l20, l21, l22, l23, l24, l25, l26, l27, l28, l29, u, z, rfl, rfl, ⟨HB.out.other hb 16 (by decide)⟩⟩
   ·
    obtain rfl : l17 = false := (AnyOrder.mem_ready hi).2.1
    obtain rfl : l8 = true := AnyOrder.dep (q := 0) hi rfl rfl rfl
    obtain rfl : l16 = true := AnyOrder.dep (q := 1) hi rfl rfl rfl
    clear hi
    simp only [sel_true] at hK ⊢
    have hb := Below.refl V.heap.size V
    refine AnyOrder.wpOp_go rfl (by rfl) ?_
    go_wp2_with fail
    exact ⟨l0, l1, l2, l3, l4, l5, l6, l7, true, l9, l10, l11, l12, l13, l14, l15, true, true, l18, l19, l20, l21, l22, l23, l24, l25, l26, l27, l28, l29, u, z, rfl, rfl, ⟨HB.out.other hb 17 (by decide)⟩⟩
   ·
    obtain rfl : l18 = false := (AnyOrder.mem_ready hi).2.1
    obtain rfl : l17 = true := AnyOrder.dep (q := 0) hi rfl rfl rfl
    clear hi
    simp only [sel_true] at hK ⊢
    have hb := Below.refl V.heap.size V
    refine AnyOrder.wpOp_go rfl (by rfl) ?_
    go_wp2_with fail
    exact ⟨l0, l1, l2, l3, l4, l5, l6, l7, l8, l9, l10, l11, l12, l13, l14, l15, l16, true, true, l19, l20, l21, l22, l23, l24, l25, l26, l27, l28, l29, u, z, rfl, rfl, ⟨HB.out.other hb 18 (by decide)⟩⟩
   ·
    obtain rfl : l19 = false := (AnyOrder.mem_ready hi).2.1
    obtain rfl : l18 = true := AnyOrder.dep (q := 0) hi rfl rfl rfl
    clear hi
    simp only [sel_true] at hK ⊢
    obtain ⟨c0, c1, c2, c3, c4, c5⟩ := box_cells HB.out.five.b0
    have hb := Below.refl V.heap.size V
    refine AnyOrder.wpOp_go rfl (by rfl) ?_
    go_wp2_with fail
    exact ⟨l0, l1, l2, l3, l4, l5, l6, l7, l8, l9, l10, l11, l12, l13, l14, l15, l16, l17, true, true, l20, l21, l22, l23, l24, l25, l26, l27, l28, l29, u, z, rfl, rfl, ⟨HB.out.other hb 19 (by decide)⟩⟩
   ·
    obtain rfl : l20 = false := (AnyOrder.mem_ready hi).2.1
    obtain rfl : l18 = true := AnyOrder.dep (q := 0) hi rfl rfl rfl
    clear hi
    simp only [sel_true] at hK ⊢
    refine AnyOrder.wpOp_go rfl (by rfl) ?_
    go_wp2_with fail
    refine (redpencillaw13_at.calls _ _ _ _ V rfl).mono ?_
    rintro e V' ⟨rfl, hb⟩
    exact hK _ _ ⟨l0, l1, l2, l3, l4, l5, l6, l7, l8, l9, l10, l11, l12, l13, l14, l15, l16, l17, true, l19, true, l21, l22, l23, l24, l25, l26, l27, l28, l29, u, z, rfl, rfl, ⟨HB.out.other hb 20 (by decide)⟩⟩
   ·
    obtain rfl : l21 = false := (AnyOrder.mem_ready hi).2.1
    obtain rfl : l18 = true := AnyOrder.dep (q := 1) hi rfl rfl rfl
    clear hi
    simp only [sel_true] at hK ⊢
    refine AnyOrder.wpOp_go rfl (by rfl) ?_
    go_wp2_with fail
    refine (redpencillaw13_at.calls _ _ _ _ V rfl).mono ?_
    rintro e V' ⟨rfl, hb⟩
    exact hK _ _ ⟨l0, l1, l2, l3, l4, l5, l6, l7, l8, l9, l10, l11, l12, l13, l14, l15, l16, l17, true, l19, l20, true, l22, l23, l24, l25, l26, l27, l28, l29, u, z, rfl, rfl, ⟨HB.out.other hb 21 (by decide)⟩⟩
   ·
    obtain rfl : l22 = false := (AnyOrder.mem_ready hi).2.1
    obtain rfl : l20 = true := AnyOrder.dep (q := 0) hi rfl rfl rfl
    obtain rfl : l21 = true := AnyOrder.dep (q := 1) hi rfl rfl rfl
    obtain rfl : l18 = true := AnyOrder.dep (q := 3) hi rfl rfl rfl
    clear hi
    simp only [sel_true] at hK ⊢
    refine AnyOrder.wpOp_go rfl (by rfl) ?_
    go_wp2_with fail
    refine (redpencillaw13_of.calls _ _ _ _ _ _ _ _ _ _ _ _ V rfl).mono ?_
    rintro e V' ⟨rfl, hb⟩
    exact hK _ _ ⟨l0, l1, l2, l3, l4, l5, l6, l7, l8, l9, l10, l11, l12, l13, l14, l15, l16, l17, true, l19, true, true, true, l23, l24, l25, l26, l27, l28, l29, u, z, rfl, rfl, ⟨HB.out.other hb 22 (by decide)⟩⟩
   ·
    obtain rfl : l23 = false := (AnyOrder.mem_ready hi).2.1
    obtain rfl : l19 = true := AnyOrder.dep (q := 0) hi rfl rfl rfl
    obtain rfl : l22 = true := AnyOrder.dep (q := 1) hi rfl rfl rfl
    obtain rfl : l18 = true := AnyOrder.dep (q := 2) hi rfl rfl rfl
    clear hi
    simp only [sel_true] at hK ⊢
    refine AnyOrder.wpOp_go rfl (by rfl) ?_
    go_wp2_with fail
    exact ⟨l0, l1, l2, l3, l4, l5, l6, l7, l8, l9, l10, l11, l12, l13, l14, l15, l16, l17, true, true, l20, l21, true, true, l24, l25, l26, l27, l28, l29, updV u 23 _, z, rfl, rfl, ⟨HB.out.addN ((Below.refl _ _).alloc (Nat.le_refl _) _) 23 (by decide) _ (lit_nodes V w.heap.size HB.out.five.below.size [kA, kF] 2 rfl (by decide) (by decide) _ rfl)⟩⟩
   ·
    obtain rfl : l24 = false := (AnyOrder.mem_ready hi).2.1
    obtain rfl : l23 = true := AnyOrder.dep (q := 0) hi rfl rfl rfl
    obtain rfl : l18 = true := AnyOrder.dep (q := 2) hi rfl rfl rfl
    clear hi
    simp only [sel_true] at hK ⊢
    refine AnyOrder.wpOp_go rfl (by rfl) ?_
    go_wp2_with fail
    refine (nodes_call (HB.out.nod 23 (by decide) rfl)).mono ?_
    rintro e V' ⟨rfl, hb⟩
    exact hK _ _ ⟨l0, l1, l2, l3, l4, l5, l6, l7, l8, l9, l10, l11, l12, l13, l14, l15, l16, l17, true, l19, l20, l21, l22, true, true, l25, l26, l27, l28, l29, updV u 24 (u 23), z, rfl, rfl, ⟨HB.out.addN hb 24 (by decide) _ (Kd.R_below (HB.out.nod 23 (by decide) rfl) hb)⟩⟩
   ·
    obtain rfl : l25 = false := (AnyOrder.mem_ready hi).2.1
    obtain rfl : l18 = true := AnyOrder.dep (q := 0) hi rfl rfl rfl
    clear hi
    simp only [sel_true] at hK ⊢
    have hb := Below.refl V.heap.size V
    refine AnyOrder.wpOp_go rfl (by rfl) ?_
    go_wp2_with fail
    exact ⟨l0, l1, l2, l3, l4, l5, l6, l7, l8, l9, l10, l11, l12, l13, l14, l15, l16, l17, true, l19, l20, l21, l22, l23, l24, true, l26, l27, l28, l29, u, z, rfl, rfl, ⟨HB.out.other hb 25 (by decide)⟩⟩
   ·
    obtain rfl : l26 = false := (AnyOrder.mem_ready hi).2.1
    obtain rfl : l25 = true := AnyOrder.dep (q := 0) hi rfl rfl rfl
    obtain rfl : l18 = true := AnyOrder.dep (q := 1) hi rfl rfl rfl
    clear hi
    simp only [sel_true] at hK ⊢
    refine AnyOrder.wpOp_go rfl (by rfl) ?_
    go_wp2_with fail
    exact ⟨l0, l1, l2, l3, l4, l5, l6, l7, l8, l9, l10, l11, l12, l13, l14, l15, l16, l17, true, l19, l20, l21, l22, l23, l24, true, true, l27, l28, l29, updV u 26 _, z, rfl, rfl, ⟨HB.out.addF ((Below.refl _ _).alloc (Nat.le_refl _) _) 26 (by decide) _ (lit_faults V w.heap.size HB.out.five.below.size [⟨1, 1⟩] 1 rfl (by decide) (by decide) _ rfl)⟩⟩
   ·
    obtain rfl : l27 = false := (AnyOrder.mem_ready hi).2.1
    obtain rfl : l24 = true := AnyOrder.dep (q := 0) hi rfl rfl rfl
    obtain rfl : l26 = true := AnyOrder.dep (q := 1) hi rfl rfl rfl
    obtain rfl : l18 = true := AnyOrder.dep (q := 3) hi rfl rfl rfl
    clear hi
    simp only [sel_true] at hK ⊢
    refine AnyOrder.wpOp_go rfl (by rfl) ?_
    go_wp2_with fail
    have hcall := faults_call (HB.out.nod 24 (by decide) rfl) (HB.out.fau 26 (by decide) rfl) (by kernel_rfl : redpencillaw13_faults.f 60 (xs6 24) (fs6 26) = some true)
    refine hcall.mono ?_
    rintro e V' ⟨rfl, hb⟩
    exact hK _ _ ⟨l0, l1, l2, l3, l4, l5, l6, l7, l8, l9, l10, l11, l12, l13, l14, l15, l16, l17, true, l19, l20, l21, l22, l23, true, l25, true, true, l28, l29, u, z, rfl, rfl, ⟨HB.out.other hb 27 (by decide)⟩⟩
   ·
    obtain rfl : l28 = false := (AnyOrder.mem_ready hi).2.1
    obtain rfl : l27 = true := AnyOrder.dep (q := 0) hi rfl rfl rfl
    obtain rfl : l18 = true := AnyOrder.dep (q := 1) hi rfl rfl rfl
    clear hi
    simp only [sel_true] at hK ⊢
    have hb := Below.refl V.heap.size V
    refine AnyOrder.wpOp_go rfl (by rfl) ?_
    go_wp2_with fail
    exact ⟨l0, l1, l2, l3, l4, l5, l6, l7, l8, l9, l10, l11, l12, l13, l14, l15, l16, l17, true, l19, l20, l21, l22, l23, l24, l25, l26, true, true, l29, u, z, rfl, rfl, ⟨HB.out.other hb 28 (by decide)⟩⟩
   ·
    obtain rfl : l29 = false := (AnyOrder.mem_ready hi).2.1
    obtain rfl : l18 = true := AnyOrder.dep (q := 0) hi rfl rfl rfl
    obtain rfl : l28 = true := AnyOrder.dep (q := 1) hi rfl rfl rfl
    clear hi
    simp only [sel_true] at hK ⊢
    have hb := Below.refl V.heap.size V
    refine AnyOrder.wpOp_go rfl (by rfl) ?_
    go_wp2_with fail
    exact ⟨l0, l1, l2, l3, l4, l5, l6, l7, l8, l9, l10, l11, l12, l13, l14, l15, l16, l17, true, l19, l20, l21, l22, l23, l24, l25, l26, l27, true, true, u, z, rfl, rfl, ⟨HB.out.other hb 29 (by decide)⟩⟩
  case last6 =>
   clear H5 R7
   rintro L a V ⟨l0, l1, l2, l3, l4, l5, l6, l7, l8, l9, l10, l11, l12, l13, l14, l15, l16, l17, l18, l19, l20, l21, l22, l23, l24, l25, l26, l27, l28, l29, u, z, rfl, rfl, HB⟩ hr
   have hall := AnyOrder.all_listed rfl (by kernel_rfl) hr
   clear hr
   obtain rfl : l0 = true := hall 0 (by decide)
   obtain rfl : l1 = true := hall 1 (by decide)
   obtain rfl : l2 = true := hall 2 (by decide)
   obtain rfl : l3 = true := hall 3 (by decide)
   obtain rfl : l4 = true := hall 4 (by decide)
   obtain rfl : l5 = true := hall 5 (by decide)
   obtain rfl : l6 = true := hall 6 (by decide)
   obtain rfl : l7 = true := hall 7 (by decide)
   obtain rfl : l8 = true := hall 8 (by decide)
   obtain rfl : l9 = true := hall 9 (by decide)
   obtain rfl : l10 = true := hall 10 (by decide)
   obtain rfl : l11 = true := hall 11 (by decide)
   obtain rfl : l12 = true := hall 12 (by decide)
   obtain rfl : l13 = true := hall 13 (by decide)
   obtain rfl : l14 = true := hall 14 (by decide)
   obtain rfl : l15 = true := hall 15 (by decide)
   obtain rfl : l16 = true := hall 16 (by decide)
   obtain rfl : l17 = true := hall 17 (by decide)
   obtain rfl : l18 = true := hall 18 (by decide)
   obtain rfl : l19 = true := hall 19 (by decide)
   obtain rfl : l20 = true := hall 20 (by decide)
   obtain rfl : l21 = true := hall 21 (by decide)
   obtain rfl : l22 = true := hall 22 (by decide)
   obtain rfl : l23 = true := hall 23 (by decide)
   obtain rfl : l24 = true := hall 24 (by decide)
   obtain rfl : l25 = true := hall 25 (by decide)
   obtain rfl : l26 = true := hall 26 (by decide)
   obtain rfl : l27 = true := hall 27 (by decide)
   obtain rfl : l28 = true := hall 28 (by decide)
   obtain rfl : l29 = true := hall 29 (by decide)
   clear hall
   simp only [sel_true]
   have H5 := Aside0.mk HB.out.five
   have R7 := Aside0.mk HB.out.seven
   clear HB
   obtain ⟨c00, c01, c02, c03, c04, c05⟩ := box_cells H5.out.b0
   obtain ⟨c10, c11, c12, c13, c14, c15⟩ := box_cells H5.out.b1
   have h7 := R7.out
   have h5 := H5.out
   clear R7 H5
   have R7 := Aside0.mk h7
   have H5 := Aside0.mk h5
   clear h7 h5
   go_wp2_with fail
   clear c00 c01 c02 c03 c04 c05 c10 c11 c12 c13 c14 c15
   have A80 := lit_nodes V w.heap.size H5.out.below.size [kA, kB] 2 rfl (by decide) (by decide) _ rfl
   refine (nodes_call A80).mono ?_
   rintro e W80 ⟨rfl, hb⟩
   have hb2 := below_more ((Below.refl V.heap.size V).alloc (Nat.le_refl _) _) hb
   have R80 := Aside0.mk (Kd.R_below A80 hb)
   have H5 := Aside0.mk (H5.out.keep hb2)
   have R7 := Aside0.mk (Kd.R_below R7.out hb2)
   clear hb hb2 A80
   go_wp2_with fail
   refine (whole_call R7.out R80.out ex5).mono ?_
   rintro e W81 ⟨rfl, hb⟩
   have H5 := Aside0.mk (H5.out.keep hb)
   have R7 := Aside0.mk (Kd.R_below R7.out hb)
   clear hb
   obtain ⟨c10, c11, c12, c13, c14, c15⟩ := box_cells H5.out.b1
   obtain ⟨c00, c01, c02, c03, c04, c05⟩ := box_cells H5.out.b0
   have h7 := R7.out
   have h5 := H5.out
   clear R7 H5
   have R7 := Aside0.mk h7
   have H5 := Aside0.mk h5
   clear h7 h5
   go_wp2_with fail
   clear c10 c11 c12 c13 c14 c15 c00 c01 c02 c03 c04 c05
   have A82 := lit_nodes W81 w.heap.size H5.out.below.size [kB, kA] 2 rfl (by decide) (by decide) _ rfl
   refine (nodes_call A82).mono ?_
   rintro e W82 ⟨rfl, hb⟩
   have hb2 := below_more ((Below.refl W81.heap.size W81).alloc (Nat.le_refl _) _) hb
   have R82 := Aside0.mk (Kd.R_below A82 hb)
   have H5 := Aside0.mk (H5.out.keep hb2)
   have R7 := Aside0.mk (Kd.R_below R7.out hb2)
   clear hb hb2 A82
   go_wp2_with fail
   refine (whole_call R82.out (Kd.R_nil _ _ _ _ _) ex6).mono ?_
   rintro e W83 ⟨rfl, hb⟩
   have H5 := Aside0.mk (H5.out.keep hb)
   clear hb
   go_wp2_with fail
   refine (Word.walk 3 _ (HW.out.below H5.out.below)).mono ?_
   rintro e W84 ⟨rfl, hd⟩
   have H5 := Aside0.mk (H5.out.keep hd.below)
   clear hd
   rw [show wordOf 3 = ⟨#[112, 97, 114, 101, 110, 116]⟩ from rfl]
   go_wp2_with fail
   refine (Word.walk 5 _ (HW.out.below H5.out.below)).mono ?_
   rintro e W85 ⟨rfl, hd⟩
   have H5 := Aside0.mk (H5.out.keep hd.below)
   clear hd
   rw [show wordOf 5 = ⟨#[]⟩ from rfl]
   go_wp2
   go_ret
   exact ⟨rfl, H5.out.below⟩
 case step =>
  rintro L a V i ⟨l0, l1, l2, l3, l4, l5, l6, l7, l8, l9, l10, l11, l12, l13, l14, l15, l16, l17, l18, l19, l20, l21, l22, l23, l24, b, rfl, rfl, HB⟩ hi K hK
  have h1 : i = 0 ∨ i = 1 ∨ i = 2 ∨ i = 3 ∨ i = 4 ∨ i = 5 ∨ i = 6 ∨ i = 7 ∨ i = 8 ∨ i = 9 ∨ i = 10 ∨ i = 11 ∨ i = 12 ∨ i = 13 ∨ i = 14 ∨ i = 15 ∨ i = 16 ∨ i = 17 ∨ i = 18 ∨ i = 19 ∨ i = 20 ∨ i = 21 ∨ i = 22 ∨ i = 23 ∨ i = 24 := by
   have h1 := (AnyOrder.mem_ready hi).1
   clear hi hK
   change i < 25 at h1
   omega
  rcases h1 with rfl | rfl | rfl | rfl | rfl | rfl | rfl | rfl | rfl | rfl | rfl | rfl | rfl | rfl | rfl | rfl | rfl | rfl | rfl | rfl | rfl | rfl | rfl | rfl | rfl
  ·
   obtain rfl : l0 = false := (AnyOrder.mem_ready hi).2.1
   clear hi
   refine AnyOrder.wpOp_go rfl (by rfl) ?_
   go_wp2_with fail
   refine (redpencillaw13_at.calls _ _ _ _ V rfl).mono ?_
   rintro e V' ⟨rfl, hb⟩
   exact hK _ _ ⟨true, l1, l2, l3, l4, l5, l6, l7, l8, l9, l10, l11, l12, l13, l14, l15, l16, l17, l18, l19, l20, l21, l22, l23, l24, b, rfl, rfl, ⟨HB.out.other hb 0 (by decide)⟩⟩
  ·
   obtain rfl : l1 = false := (AnyOrder.mem_ready hi).2.1
   clear hi
   have hc0 : V.cell? ⟨w.heap.size, 0, none⟩ = _ := (blk_cell HB.out.root.2 0).trans rfl
   have hc1 : V.cell? ⟨w.heap.size, 1, none⟩ = _ := (blk_cell HB.out.root.2 1).trans rfl
   refine AnyOrder.wpOp_go rfl (by rfl) ?_
   have hb := Below.refl V.heap.size V
   go_wp2_with fail
   exact ⟨l0, true, l2, l3, l4, l5, l6, l7, l8, l9, l10, l11, l12, l13, l14, l15, l16, l17, l18, l19, l20, l21, l22, l23, l24, b, rfl, rfl, ⟨HB.out.other hb 1 (by decide)⟩⟩
  ·
   obtain rfl : l2 = false := (AnyOrder.mem_ready hi).2.1
   obtain rfl : l0 = true := AnyOrder.dep (q := 0) hi rfl rfl rfl
   obtain rfl : l1 = true := AnyOrder.dep (q := 1) hi rfl rfl rfl
   clear hi
   simp only [sel_true] at hK ⊢
   refine AnyOrder.wpOp_go rfl (by rfl) ?_
   go_wp2_with fail
   refine (redpencillaw13_of.calls _ _ _ _ _ _ _ _ _ _ _ _ V rfl).mono ?_
   rintro e V' ⟨rfl, hb⟩
   exact hK _ _ ⟨true, true, true, l3, l4, l5, l6, l7, l8, l9, l10, l11, l12, l13, l14, l15, l16, l17, l18, l19, l20, l21, l22, l23, l24, b, rfl, rfl, ⟨HB.out.other hb 2 (by decide)⟩⟩
  ·
   obtain rfl : l3 = false := (AnyOrder.mem_ready hi).2.1
   clear hi
   refine AnyOrder.wpOp_go rfl (by rfl) ?_
   go_wp2_with fail
   refine (redpencillaw13_at.calls _ _ _ _ V rfl).mono ?_
   rintro e V' ⟨rfl, hb⟩
   exact hK _ _ ⟨l0, l1, l2, true, l4, l5, l6, l7, l8, l9, l10, l11, l12, l13, l14, l15, l16, l17, l18, l19, l20, l21, l22, l23, l24, b, rfl, rfl, ⟨HB.out.other hb 3 (by decide)⟩⟩
  ·
   obtain rfl : l4 = false := (AnyOrder.mem_ready hi).2.1
   clear hi
   refine AnyOrder.wpOp_go rfl (by rfl) ?_
   go_wp2_with fail
   refine (redpencillaw13_at.calls _ _ _ _ V rfl).mono ?_
   rintro e V' ⟨rfl, hb⟩
   exact hK _ _ ⟨l0, l1, l2, l3, true, l5, l6, l7, l8, l9, l10, l11, l12, l13, l14, l15, l16, l17, l18, l19, l20, l21, l22, l23, l24, b, rfl, rfl, ⟨HB.out.other hb 4 (by decide)⟩⟩
  ·
   obtain rfl : l5 = false := (AnyOrder.mem_ready hi).2.1
   obtain rfl : l3 = true := AnyOrder.dep (q := 0) hi rfl rfl rfl
   obtain rfl : l4 = true := AnyOrder.dep (q := 1) hi rfl rfl rfl
   clear hi
   simp only [sel_true] at hK ⊢
   refine AnyOrder.wpOp_go rfl (by rfl) ?_
   go_wp2_with fail
   refine (redpencillaw13_of.calls _ _ _ _ _ _ _ _ _ _ _ _ V rfl).mono ?_
   rintro e V' ⟨rfl, hb⟩
   exact hK _ _ ⟨l0, l1, l2, true, true, true, l6, l7, l8, l9, l10, l11, l12, l13, l14, l15, l16, l17, l18, l19, l20, l21, l22, l23, l24, b, rfl, rfl, ⟨HB.out.other hb 5 (by decide)⟩⟩
  ·
   obtain rfl : l6 = false := (AnyOrder.mem_ready hi).2.1
   clear hi
   refine AnyOrder.wpOp_go rfl (by rfl) ?_
   go_wp2_with fail
   refine (redpencillaw13_at.calls _ _ _ _ V rfl).mono ?_
   rintro e V' ⟨rfl, hb⟩
   exact hK _ _ ⟨l0, l1, l2, l3, l4, l5, true, l7, l8, l9, l10, l11, l12, l13, l14, l15, l16, l17, l18, l19, l20, l21, l22, l23, l24, b, rfl, rfl, ⟨HB.out.other hb 6 (by decide)⟩⟩
  ·
   obtain rfl : l7 = false := (AnyOrder.mem_ready hi).2.1
   clear hi
   refine AnyOrder.wpOp_go rfl (by rfl) ?_
   go_wp2_with fail
   refine (redpencillaw13_at.calls _ _ _ _ V rfl).mono ?_
   rintro e V' ⟨rfl, hb⟩
   exact hK _ _ ⟨l0, l1, l2, l3, l4, l5, l6, true, l8, l9, l10, l11, l12, l13, l14, l15, l16, l17, l18, l19, l20, l21, l22, l23, l24, b, rfl, rfl, ⟨HB.out.other hb 7 (by decide)⟩⟩
  ·
   obtain rfl : l8 = false := (AnyOrder.mem_ready hi).2.1
   obtain rfl : l6 = true := AnyOrder.dep (q := 0) hi rfl rfl rfl
   obtain rfl : l7 = true := AnyOrder.dep (q := 1) hi rfl rfl rfl
   clear hi
   simp only [sel_true] at hK ⊢
   refine AnyOrder.wpOp_go rfl (by rfl) ?_
   go_wp2_with fail
   refine (redpencillaw13_of.calls _ _ _ _ _ _ _ _ _ _ _ _ V rfl).mono ?_
   rintro e V' ⟨rfl, hb⟩
   exact hK _ _ ⟨l0, l1, l2, l3, l4, l5, true, true, true, l9, l10, l11, l12, l13, l14, l15, l16, l17, l18, l19, l20, l21, l22, l23, l24, b, rfl, rfl, ⟨HB.out.other hb 8 (by decide)⟩⟩
  ·
   obtain rfl : l9 = false := (AnyOrder.mem_ready hi).2.1
   clear hi
   refine AnyOrder.wpOp_go rfl (by rfl) ?_
   go_wp2_with fail
   refine (redpencillaw13_at.calls _ _ _ _ V rfl).mono ?_
   rintro e V' ⟨rfl, hb⟩
   exact hK _ _ ⟨l0, l1, l2, l3, l4, l5, l6, l7, l8, true, l10, l11, l12, l13, l14, l15, l16, l17, l18, l19, l20, l21, l22, l23, l24, b, rfl, rfl, ⟨HB.out.other hb 9 (by decide)⟩⟩
  ·
   obtain rfl : l10 = false := (AnyOrder.mem_ready hi).2.1
   clear hi
   refine AnyOrder.wpOp_go rfl (by rfl) ?_
   go_wp2_with fail
   refine (redpencillaw13_at.calls _ _ _ _ V rfl).mono ?_
   rintro e V' ⟨rfl, hb⟩
   exact hK _ _ ⟨l0, l1, l2, l3, l4, l5, l6, l7, l8, l9, true, l11, l12, l13, l14, l15, l16, l17, l18, l19, l20, l21, l22, l23, l24, b, rfl, rfl, ⟨HB.out.other hb 10 (by decide)⟩⟩
  ·
   obtain rfl : l11 = false := (AnyOrder.mem_ready hi).2.1
   obtain rfl : l9 = true := AnyOrder.dep (q := 0) hi rfl rfl rfl
   obtain rfl : l10 = true := AnyOrder.dep (q := 1) hi rfl rfl rfl
   clear hi
   simp only [sel_true] at hK ⊢
   refine AnyOrder.wpOp_go rfl (by rfl) ?_
   go_wp2_with fail
   refine (redpencillaw13_of.calls _ _ _ _ _ _ _ _ _ _ _ _ V rfl).mono ?_
   rintro e V' ⟨rfl, hb⟩
   exact hK _ _ ⟨l0, l1, l2, l3, l4, l5, l6, l7, l8, true, true, true, l12, l13, l14, l15, l16, l17, l18, l19, l20, l21, l22, l23, l24, b, rfl, rfl, ⟨HB.out.other hb 11 (by decide)⟩⟩
  ·
   obtain rfl : l12 = false := (AnyOrder.mem_ready hi).2.1
   clear hi
   refine AnyOrder.wpOp_go rfl (by rfl) ?_
   go_wp2_with fail
   refine (redpencillaw13_at.calls _ _ _ _ V rfl).mono ?_
   rintro e V' ⟨rfl, hb⟩
   exact hK _ _ ⟨l0, l1, l2, l3, l4, l5, l6, l7, l8, l9, l10, l11, true, l13, l14, l15, l16, l17, l18, l19, l20, l21, l22, l23, l24, b, rfl, rfl, ⟨HB.out.other hb 12 (by decide)⟩⟩
  ·
   obtain rfl : l13 = false := (AnyOrder.mem_ready hi).2.1
   clear hi
   refine AnyOrder.wpOp_go rfl (by rfl) ?_
   go_wp2_with fail
   refine (redpencillaw13_at.calls _ _ _ _ V rfl).mono ?_
   rintro e V' ⟨rfl, hb⟩
   exact hK _ _ ⟨l0, l1, l2, l3, l4, l5, l6, l7, l8, l9, l10, l11, l12, true, l14, l15, l16, l17, l18, l19, l20, l21, l22, l23, l24, b, rfl, rfl, ⟨HB.out.other hb 13 (by decide)⟩⟩
  ·
   obtain rfl : l14 = false := (AnyOrder.mem_ready hi).2.1
   obtain rfl : l12 = true := AnyOrder.dep (q := 0) hi rfl rfl rfl
   obtain rfl : l13 = true := AnyOrder.dep (q := 1) hi rfl rfl rfl
   clear hi
   simp only [sel_true] at hK ⊢
   refine AnyOrder.wpOp_go rfl (by rfl) ?_
   go_wp2_with fail
   refine (redpencillaw13_of.calls _ _ _ _ _ _ _ _ _ _ _ _ V rfl).mono ?_
   rintro e V' ⟨rfl, hb⟩
   exact hK _ _ ⟨l0, l1, l2, l3, l4, l5, l6, l7, l8, l9, l10, l11, true, true, true, l15, l16, l17, l18, l19, l20, l21, l22, l23, l24, b, rfl, rfl, ⟨HB.out.other hb 14 (by decide)⟩⟩
  ·
   obtain rfl : l15 = false := (AnyOrder.mem_ready hi).2.1
   clear hi
   refine AnyOrder.wpOp_go rfl (by rfl) ?_
   go_wp2_with fail
   exact ⟨l0, l1, l2, l3, l4, l5, l6, l7, l8, l9, l10, l11, l12, l13, l14, true, l16, l17, l18, l19, l20, l21, l22, l23, l24, upd b 0 V.heap.size, rfl, rfl, ⟨HB.out.made 0 (by decide) rfl rfl⟩⟩
  ·
   obtain rfl : l16 = false := (AnyOrder.mem_ready hi).2.1
   clear hi
   refine AnyOrder.wpOp_go rfl (by rfl) ?_
   go_wp2_with fail
   exact ⟨l0, l1, l2, l3, l4, l5, l6, l7, l8, l9, l10, l11, l12, l13, l14, l15, true, l17, l18, l19, l20, l21, l22, l23, l24, upd b 1 V.heap.size, rfl, rfl, ⟨HB.out.made 1 (by decide) rfl rfl⟩⟩
  ·
   obtain rfl : l17 = false := (AnyOrder.mem_ready hi).2.1
   clear hi
   refine AnyOrder.wpOp_go rfl (by rfl) ?_
   go_wp2_with fail
   exact ⟨l0, l1, l2, l3, l4, l5, l6, l7, l8, l9, l10, l11, l12, l13, l14, l15, l16, true, l18, l19, l20, l21, l22, l23, l24, upd b 2 V.heap.size, rfl, rfl, ⟨HB.out.made 2 (by decide) rfl rfl⟩⟩
  ·
   obtain rfl : l18 = false := (AnyOrder.mem_ready hi).2.1
   clear hi
   refine AnyOrder.wpOp_go rfl (by rfl) ?_
   go_wp2_with fail
   exact ⟨l0, l1, l2, l3, l4, l5, l6, l7, l8, l9, l10, l11, l12, l13, l14, l15, l16, l17, true, l19, l20, l21, l22, l23, l24, upd b 3 V.heap.size, rfl, rfl, ⟨HB.out.made 3 (by decide) rfl rfl⟩⟩
  ·
   obtain rfl : l19 = false := (AnyOrder.mem_ready hi).2.1
   clear hi
   refine AnyOrder.wpOp_go rfl (by rfl) ?_
   go_wp2_with fail
   exact ⟨l0, l1, l2, l3, l4, l5, l6, l7, l8, l9, l10, l11, l12, l13, l14, l15, l16, l17, l18, true, l20, l21, l22, l23, l24, upd b 4 V.heap.size, rfl, rfl, ⟨HB.out.made 4 (by decide) rfl rfl⟩⟩
  ·
   obtain rfl : l20 = false := (AnyOrder.mem_ready hi).2.1
   obtain rfl : l15 = true := AnyOrder.dep (q := 0) hi rfl rfl rfl
   obtain rfl : l2 = true := AnyOrder.dep (q := 1) hi rfl rfl rfl
   clear hi
   simp only [sel_true] at hK ⊢
   have hx : V.heap[b 0]? = some (.cells zeroN 35 (0, 0)) := (HB.out.box 0 (by decide) rfl).2
   have hc0 : V.cell? ⟨b 0, 0, none⟩ = some (.int .i64 0) := (blk_cell hx 0).trans rfl
   have hc1 : V.cell? ⟨b 0, 1, none⟩ = some (.int .i64 0) := (blk_cell hx 1).trans rfl
   have hc2 : V.cell? ⟨b 0, 2, none⟩ = some (.int .i64 0) := (blk_cell hx 2).trans rfl
   have hc3 : V.cell? ⟨b 0, 3, none⟩ = some (.int .i64 0) := (blk_cell hx 3).trans rfl
   have hc4 : V.cell? ⟨b 0, 4, none⟩ = some (.int .i64 0) := (blk_cell hx 4).trans rfl
   have hc5 : V.cell? ⟨b 0, 5, none⟩ = some (.int .i32 0) := (blk_cell hx 5).trans rfl
   have hf0 := blk_frozen hx 0
   have hf1 := blk_frozen hx 1
   have hf2 := blk_frozen hx 2
   have hf3 := blk_frozen hx 3
   have hf4 := blk_frozen hx 4
   have hf5 := blk_frozen hx 5
   have HX := Aside0.mk hx
   clear hx
   refine AnyOrder.wpOp_go rfl (by rfl) ?_
   go_wp2_with fail
   refine ⟨l0, l1, true, l3, l4, l5, l6, l7, l8, l9, l10, l11, l12, l13, l14, true, l16, l17, l18, l19, true, l21, l22, l23, l24, b, rfl, rfl, ⟨HB.out.stored 0 (by decide) rfl rfl ?_ ?_⟩⟩
   ·
    exact grown_set (grown_set (grown_set (grown_set (grown_set (grown_set ⟨rfl, rfl, rfl, Nat.le_refl _, fun _ _ _ => rfl⟩ _ _) _ _) _ _) _ _) _ _) _ _
   ·
    exact blk_put (blk_put (blk_put (blk_put (blk_put (blk_put HX.out 0 _ rfl) 1 _ rfl) 2 _ rfl) 3 _ rfl) 4 _ rfl) 5 _ rfl
  ·
   obtain rfl : l21 = false := (AnyOrder.mem_ready hi).2.1
   obtain rfl : l16 = true := AnyOrder.dep (q := 0) hi rfl rfl rfl
   obtain rfl : l5 = true := AnyOrder.dep (q := 1) hi rfl rfl rfl
   clear hi
   simp only [sel_true] at hK ⊢
   have hx : V.heap[b 1]? = some (.cells zeroN 35 (0, 0)) := (HB.out.box 1 (by decide) rfl).2
   have hc0 : V.cell? ⟨b 1, 0, none⟩ = some (.int .i64 0) := (blk_cell hx 0).trans rfl
   have hc1 : V.cell? ⟨b 1, 1, none⟩ = some (.int .i64 0) := (blk_cell hx 1).trans rfl
   have hc2 : V.cell? ⟨b 1, 2, none⟩ = some (.int .i64 0) := (blk_cell hx 2).trans rfl
   have hc3 : V.cell? ⟨b 1, 3, none⟩ = some (.int .i64 0) := (blk_cell hx 3).trans rfl
   have hc4 : V.cell? ⟨b 1, 4, none⟩ = some (.int .i64 0) := (blk_cell hx 4).trans rfl
   have hc5 : V.cell? ⟨b 1, 5, none⟩ = some (.int .i32 0) := (blk_cell hx 5).trans rfl
   have hf0 := blk_frozen hx 0
   have hf1 := blk_frozen hx 1
   have hf2 := blk_frozen hx 2
   have hf3 := blk_frozen hx 3
   have hf4 := blk_frozen hx 4
   have hf5 := blk_frozen hx 5
   have HX := Aside0.mk hx
   clear hx
   refine AnyOrder.wpOp_go rfl (by rfl) ?_
   go_wp2_with fail
   refine ⟨l0, l1, l2, l3, l4, true, l6, l7, l8, l9, l10, l11, l12, l13, l14, l15, true, l17, l18, l19, l20, true, l22, l23, l24, b, rfl, rfl, ⟨HB.out.stored 1 (by decide) rfl rfl ?_ ?_⟩⟩
   ·
    exact grown_set (grown_set (grown_set (grown_set (grown_set (grown_set ⟨rfl, rfl, rfl, Nat.le_refl _, fun _ _ _ => rfl⟩ _ _) _ _) _ _) _ _) _ _) _ _
   ·
    exact blk_put (blk_put (blk_put (blk_put (blk_put (blk_put HX.out 0 _ rfl) 1 _ rfl) 2 _ rfl) 3 _ rfl) 4 _ rfl) 5 _ rfl
  ·
   obtain rfl : l22 = false := (AnyOrder.mem_ready hi).2.1
   obtain rfl : l17 = true := AnyOrder.dep (q := 0) hi rfl rfl rfl
   obtain rfl : l8 = true := AnyOrder.dep (q := 1) hi rfl rfl rfl
   clear hi
   simp only [sel_true] at hK ⊢
   have hx : V.heap[b 2]? = some (.cells zeroN 35 (0, 0)) := (HB.out.box 2 (by decide) rfl).2
   have hc0 : V.cell? ⟨b 2, 0, none⟩ = some (.int .i64 0) := (blk_cell hx 0).trans rfl
   have hc1 : V.cell? ⟨b 2, 1, none⟩ = some (.int .i64 0) := (blk_cell hx 1).trans rfl
   have hc2 : V.cell? ⟨b 2, 2, none⟩ = some (.int .i64 0) := (blk_cell hx 2).trans rfl
   have hc3 : V.cell? ⟨b 2, 3, none⟩ = some (.int .i64 0) := (blk_cell hx 3).trans rfl
   have hc4 : V.cell? ⟨b 2, 4, none⟩ = some (.int .i64 0) := (blk_cell hx 4).trans rfl
   have hc5 : V.cell? ⟨b 2, 5, none⟩ = some (.int .i32 0) := (blk_cell hx 5).trans rfl
   have hf0 := blk_frozen hx 0
   have hf1 := blk_frozen hx 1
   have hf2 := blk_frozen hx 2
   have hf3 := blk_frozen hx 3
   have hf4 := blk_frozen hx 4
   have hf5 := blk_frozen hx 5
   have HX := Aside0.mk hx
   clear hx
   refine AnyOrder.wpOp_go rfl (by rfl) ?_
   go_wp2_with fail
   refine ⟨l0, l1, l2, l3, l4, l5, l6, l7, true, l9, l10, l11, l12, l13, l14, l15, l16, true, l18, l19, l20, l21, true, l23, l24, b, rfl, rfl, ⟨HB.out.stored 2 (by decide) rfl rfl ?_ ?_⟩⟩
   ·
    exact grown_set (grown_set (grown_set (grown_set (grown_set (grown_set ⟨rfl, rfl, rfl, Nat.le_refl _, fun _ _ _ => rfl⟩ _ _) _ _) _ _) _ _) _ _) _ _
   ·
    exact blk_put (blk_put (blk_put (blk_put (blk_put (blk_put HX.out 0 _ rfl) 1 _ rfl) 2 _ rfl) 3 _ rfl) 4 _ rfl) 5 _ rfl
  ·
   obtain rfl : l23 = false := (AnyOrder.mem_ready hi).2.1
   obtain rfl : l18 = true := AnyOrder.dep (q := 0) hi rfl rfl rfl
   obtain rfl : l11 = true := AnyOrder.dep (q := 1) hi rfl rfl rfl
   clear hi
   simp only [sel_true] at hK ⊢
   have hx : V.heap[b 3]? = some (.cells zeroN 35 (0, 0)) := (HB.out.box 3 (by decide) rfl).2
   have hc0 : V.cell? ⟨b 3, 0, none⟩ = some (.int .i64 0) := (blk_cell hx 0).trans rfl
   have hc1 : V.cell? ⟨b 3, 1, none⟩ = some (.int .i64 0) := (blk_cell hx 1).trans rfl
   have hc2 : V.cell? ⟨b 3, 2, none⟩ = some (.int .i64 0) := (blk_cell hx 2).trans rfl
   have hc3 : V.cell? ⟨b 3, 3, none⟩ = some (.int .i64 0) := (blk_cell hx 3).trans rfl
   have hc4 : V.cell? ⟨b 3, 4, none⟩ = some (.int .i64 0) := (blk_cell hx 4).trans rfl
   have hc5 : V.cell? ⟨b 3, 5, none⟩ = some (.int .i32 0) := (blk_cell hx 5).trans rfl
   have hf0 := blk_frozen hx 0
   have hf1 := blk_frozen hx 1
   have hf2 := blk_frozen hx 2
   have hf3 := blk_frozen hx 3
   have hf4 := blk_frozen hx 4
   have hf5 := blk_frozen hx 5
   have HX := Aside0.mk hx
   clear hx
   refine AnyOrder.wpOp_go rfl (by rfl) ?_
   go_wp2_with fail
   refine ⟨l0, l1, l2, l3, l4, l5, l6, l7, l8, l9, l10, true, l12, l13, l14, l15, l16, l17, true, l19, l20, l21, l22, true, l24, b, rfl, rfl, ⟨HB.out.stored 3 (by decide) rfl rfl ?_ ?_⟩⟩
   ·
    exact grown_set (grown_set (grown_set (grown_set (grown_set (grown_set ⟨rfl, rfl, rfl, Nat.le_refl _, fun _ _ _ => rfl⟩ _ _) _ _) _ _) _ _) _ _) _ _
   ·
    exact blk_put (blk_put (blk_put (blk_put (blk_put (blk_put HX.out 0 _ rfl) 1 _ rfl) 2 _ rfl) 3 _ rfl) 4 _ rfl) 5 _ rfl
  ·
   obtain rfl : l24 = false := (AnyOrder.mem_ready hi).2.1
   obtain rfl : l19 = true := AnyOrder.dep (q := 0) hi rfl rfl rfl
   obtain rfl : l14 = true := AnyOrder.dep (q := 1) hi rfl rfl rfl
   clear hi
   simp only [sel_true] at hK ⊢
   have hx : V.heap[b 4]? = some (.cells zeroN 35 (0, 0)) := (HB.out.box 4 (by decide) rfl).2
   have hc0 : V.cell? ⟨b 4, 0, none⟩ = some (.int .i64 0) := (blk_cell hx 0).trans rfl
   have hc1 : V.cell? ⟨b 4, 1, none⟩ = some (.int .i64 0) := (blk_cell hx 1).trans rfl
   have hc2 : V.cell? ⟨b 4, 2, none⟩ = some (.int .i64 0) := (blk_cell hx 2).trans rfl
   have hc3 : V.cell? ⟨b 4, 3, none⟩ = some (.int .i64 0) := (blk_cell hx 3).trans rfl
   have hc4 : V.cell? ⟨b 4, 4, none⟩ = some (.int .i64 0) := (blk_cell hx 4).trans rfl
   have hc5 : V.cell? ⟨b 4, 5, none⟩ = some (.int .i32 0) := (blk_cell hx 5).trans rfl
   have hf0 := blk_frozen hx 0
   have hf1 := blk_frozen hx 1
   have hf2 := blk_frozen hx 2
   have hf3 := blk_frozen hx 3
   have hf4 := blk_frozen hx 4
   have hf5 := blk_frozen hx 5
   have HX := Aside0.mk hx
   clear hx
   refine AnyOrder.wpOp_go rfl (by rfl) ?_
   go_wp2_with fail
   refine ⟨l0, l1, l2, l3, l4, l5, l6, l7, l8, l9, l10, l11, l12, l13, true, l15, l16, l17, l18, true, l20, l21, l22, l23, true, b, rfl, rfl, ⟨HB.out.stored 4 (by decide) rfl rfl ?_ ?_⟩⟩
   ·
    exact grown_set (grown_set (grown_set (grown_set (grown_set (grown_set ⟨rfl, rfl, rfl, Nat.le_refl _, fun _ _ _ => rfl⟩ _ _) _ _) _ _) _ _) _ _) _ _
   ·
    exact blk_put (blk_put (blk_put (blk_put (blk_put (blk_put HX.out 0 _ rfl) 1 _ rfl) 2 _ rfl) 3 _ rfl) 4 _ rfl) 5 _ rfl
end K13
end Go.Proofs.YtdheokololpnbaaGreatDoor.PWalk
end
section
namespace Go.Proofs.YtdheokololpnbaaGreatDoor.PWalk
open Go.RowKit Go.Proofs.YtdheokololpnbaaGreatDoorW.PrintWords Go.Proofs.YtdheokololpnbaaGreatDoorW.PrintLast Go.Proofs.YtdheokololpnbaaGreatDoorW.PrintMore
set_option linter.unusedVariables false
set_option linter.unusedSimpArgs false
open Go.Shelf
attribute [local go_sem] Oper.semAt_some
set_option maxHeartbeats 4000000 in
set_option maxRecDepth 100000 in
theorem FormHolds.walk (A0 : Option Addr) (c0 : Nat) (ll : List Node) (w : World) (hr0 : Kd.C k35 w A0 ll.length ll) (hc0 : ll.length ≤ c0) (hi : ∀ x ∈ ll, runeIn x.f3) (hw : WordsAt w) :
  Calls Tryz.prog 3 #[.slice A0 ll.length c0] w fun e w' => e = .returned (.bool true) ∧ Below w.heap.size w w' := by
 have HR := Aside0.mk hr0
 have HC := Aside0.mk hc0
 have HW := Aside0.mk hw
 have HB : Aside0 (Below w.heap.size w w) := ⟨Below.refl _ _⟩
 clear hi hw
 obtain ⟨n, Hn⟩ : ∃ n, Aside0 (ll.length = n) := ⟨_, ⟨rfl⟩⟩
 have HRN : Aside0 (Kd.C k35 w A0 n ll) := ⟨by have := HR.out; rwa [Hn.out] at this⟩
 by_cases h30 : ll.length > 30
 ·
  have hb2 : decide ((30 : Int) < (n : Int)) = true := decide_eq_true (by have := Hn.out; omega)
  have hb3 : decide ((n : Int) > 30) = true := decide_eq_true (by have := Hn.out; omega)
  rw [Hn.out]
  clear hr0 hc0 h30
  go_enter Tryz.func3, Tryz.ntmps3
  go_wp2_with fail
  refine (K13.known.walk _ (HW.out.below HB.out)).mono ?_
  rintro e W9 ⟨rfl, hd⟩
  go_wp2
  go_ret
  exact ⟨rfl, below_more HB.out hd⟩
 have HL : Aside0 (ll.length ≤ 30) := ⟨by omega⟩
 have hb2 : decide ((30 : Int) < (n : Int)) = false := decide_eq_false (by have := Hn.out; omega)
 have hb3 : decide ((n : Int) > 30) = false := decide_eq_false (by have := Hn.out; omega)
 clear h30
 by_cases hF : faultsOf ll = []
 ·
  have hcall := shape_Well.calls A0 c0 ll true w HR.out HC.out (well_yes (by have := HL.out; omega) hF)
  have HF := Aside0.mk hF
  have HS := Aside0.mk (well_store hF)
  rw [Hn.out] at hcall ⊢
  have HCALL := Aside0.mk hcall
  clear hcall hr0 hc0 hF
  go_enter Tryz.func3, Tryz.ntmps3
  go_wp2_with fail
  refine HCALL.out.mono ?_
  rintro e V1 ⟨rfl, hb⟩
  have HB := Aside0.mk (below_more HB.out hb)
  clear hb HCALL
  have hcall := Lacking_call A0 c0 ll V1 (Kd.C_below HR.out HB.out) HC.out (by have := HL.out; omega) HS.out (well_parents HF.out)
  rw [Hn.out] at hcall
  have HCALL := Aside0.mk hcall
  clear hcall
  go_wp2_with fail
  refine HCALL.out.mono ?_
  rintro e V2 ⟨Ak, ck, rfl, hb⟩
  have HB := Aside0.mk (below_more HB.out hb)
  clear hb HCALL
  have hcall := walk_Lost.calls A0 c0 ll [] 0 V2 (Kd.C_below HR.out HB.out) HC.out (by unfold walk_Lost.f; rw [if_pos (by have := HL.out; omega), if_pos HS.out, well_lost HF.out])
  rw [Hn.out] at hcall
  have HCALL := Aside0.mk hcall
  clear hcall
  go_wp2_with fail
  refine HCALL.out.mono ?_
  rintro e V3 ⟨vd, rfl, hod, hb⟩
  have HB := Aside0.mk (below_more HB.out hb)
  obtain ⟨Ad, cd, rfl⟩ := RD.slice hod
  clear hb HCALL hod
  rw [List.length_nil]
  have hcall := store_Valid.calls A0 c0 ll true V3 (Kd.C_below HR.out HB.out) HC.out (by unfold store_Valid.f; rw [if_pos (by have := HL.out; omega), HS.out])
  rw [Hn.out] at hcall
  have HCALL := Aside0.mk hcall
  clear hcall
  go_wp2_with fail
  refine HCALL.out.mono ?_
  rintro e V31 ⟨rfl, hb⟩
  have HB := Aside0.mk (below_more HB.out hb)
  clear hb HCALL
  have hcall := redpencillaw13_whole.calls 1000 A0 c0 ll A0 c0 ll 0 true V31 (Kd.C_below HR.out HB.out) HC.out (Kd.C_below HR.out HB.out) HC.out (whole_same (by have := HL.out; omega) HF.out)
  rw [Hn.out] at hcall
  have HCALL := Aside0.mk hcall
  clear hcall
  go_wp2_with fail
  refine HCALL.out.mono ?_
  rintro e WV ⟨rfl, hb⟩
  have HB := Aside0.mk (below_more HB.out hb)
  clear hb HCALL
  go_wp2_with fail
  obtain ⟨xs, Hxs⟩ : ∃ xs, Aside0 (wholeOf ll = xs) := ⟨_, ⟨rfl⟩⟩
  obtain ⟨m, Hm⟩ : ∃ m, Aside0 (xs.length = m) := ⟨_, ⟨rfl⟩⟩
  have HMN : Aside0 (m ≤ 30) := ⟨by have h1 := wholeOf_le ll; have h2 := HL.out; rw [Hxs.out, Hm.out] at h1; omega⟩
  have HXF : Aside0 (faultsOf xs = []) := ⟨by rw [← Hxs.out]; exact whole_faults HS.out⟩
  have HXS : Aside0 (storeOk xs = true) := ⟨by rw [← Hxs.out]; exact whole_store HS.out⟩
  have hcall := shape_Whole.calls A0 c0 ll xs 0 WV (Kd.C_below HR.out HB.out) HC.out (by unfold shape_Whole.f; rw [if_pos (by have := HL.out; omega), if_pos HS.out, Hxs.out])
  rw [Hn.out] at hcall
  have HCALL := Aside0.mk hcall
  clear hcall
  go_wp2_with fail
  refine HCALL.out.mono ?_
  rintro e V4 ⟨vx, rfl, hox, hb⟩
  have HB := Aside0.mk (below_more HB.out hb)
  obtain ⟨Ax, cx, rfl⟩ := Kd.R_slice hox
  have HX := Aside0.mk (Kd.R_reads' hox).2
  clear hb HCALL hox
  have hcall := store_Valid.calls A0 c0 ll true V4 (Kd.C_below HR.out HB.out) HC.out (by unfold store_Valid.f; rw [if_pos (by have := HL.out; omega), HS.out])
  rw [Hn.out] at hcall
  rw [Hm.out]
  have HCALL := Aside0.mk hcall
  clear hcall
  go_wp2_with fail
  refine HCALL.out.mono ?_
  rintro e V5 ⟨rfl, hb⟩
  have HB := Aside0.mk (below_more HB.out hb)
  have HX := Aside0.mk (show xs.length ≤ cx ∧ Kd.C k35 V5 Ax xs.length xs from ⟨HX.out.1, Kd.C_below HX.out.2 hb⟩)
  clear hb HCALL
  have hcall := shape_Well.calls Ax cx xs true V5 HX.out.2 HX.out.1 (well_yes (by have := Hm.out; have := HMN.out; omega) HXF.out)
  rw [Hm.out] at hcall
  have HCALL := Aside0.mk hcall
  clear hcall
  go_wp2_with fail
  refine HCALL.out.mono ?_
  rintro e V6 ⟨rfl, hb⟩
  have HB := Aside0.mk (below_more HB.out hb)
  have HX := Aside0.mk (show xs.length ≤ cx ∧ Kd.C k35 V6 Ax xs.length xs from ⟨HX.out.1, Kd.C_below HX.out.2 hb⟩)
  clear hb HCALL
  have hcall := redpencillaw13_whole.calls 1000 Ax cx xs Ax cx xs 0 true V6 HX.out.2 HX.out.1 HX.out.2 HX.out.1 (whole_same (by have := Hm.out; have := HMN.out; omega) HXF.out)
  rw [Hm.out] at hcall
  have HCALL := Aside0.mk hcall
  clear hcall
  go_wp2_with fail
  refine HCALL.out.mono ?_
  rintro e V7 ⟨rfl, hb⟩
  have HB := Aside0.mk (below_more HB.out hb)
  have HX := Aside0.mk (show xs.length ≤ cx ∧ Kd.C k35 V7 Ax xs.length xs from ⟨HX.out.1, Kd.C_below HX.out.2 hb⟩)
  clear hb HCALL
  go_wp2_with fail
  have hu := Tryz.underlying35
  have hu2 := Tryz.underlying33
  go_loopw [89] (fun v wr => ∃ i : Nat, v = .int .i64 i ∧ i ≤ n ∧ Aside0 (Below V7.heap.size V7 wr)) (fun v _ => n - (intOf v).toNat)
  case atStart => exact ⟨0, rfl, Nat.zero_le _, ⟨Below.refl _ _⟩⟩
  case round =>
   obtain ⟨i, rfl, hin, HB7⟩ := hrel
   have HN30 : Aside0 (n ≤ 30) := ⟨by have := HL.out; have := Hn.out; omega⟩
   have HB := Aside0.mk (below_more HB.out HB7.out)
   have HX := Aside0.mk (show xs.length ≤ cx ∧ Kd.C k35 wr Ax xs.length xs from ⟨HX.out.1, Kd.C_below HX.out.2 HB7.out⟩)
   by_cases hlt : i < n
   ·
    obtain ⟨x, Hx⟩ : ∃ x, Aside0 (ll[i]? = some x) := ⟨_, ⟨List.getElem?_eq_getElem (by rw [Hn.out]; exact hlt)⟩⟩
    obtain ⟨ad, e, h0, h1, h2, h3, h4, h5⟩ := node_at HRN.out HB.out i x Hx.out
    subst e
    have HXB := Aside0.mk (blk_new wr (boxN x))
    have HBX := Aside0.mk (below_alloc (Below.refl _ wr) (boxN x))
    obtain ⟨j, hj, hjj⟩ := find_yes (l := xs) (by have := Hm.out; have := HMN.out; omega) (d := x.f0) (k := 1000) (by have := Hm.out; have := HMN.out; omega)
    have hcall := redpencilref10_Find.calls 1000 Ax cx xs x.f0.f0 x.f0.f1 j (wr.alloc (boxN x)) (Kd.C_below HX.out.2 HBX.out) HX.out.1 hj
    rw [Hm.out] at hcall
    have HCALL := Aside0.mk hcall
    have HJ := Aside0.mk hjj
    clear hcall hj hjj
    go_wp2_with fail
    clear h0 h1 h2 h3 h4 h5
    refine HCALL.out.mono ?_
    rintro e W1 ⟨rfl, hb⟩
    have HXB := Aside0.mk (blk_keep HXB.out hb)
    have HBX := Aside0.mk (below_more HBX.out hb)
    clear hb HCALL
    by_cases hmem : x.f0 ∈ xs.map (·.f0)
    ·
     have hg1 : decide (j ≥ 0) = true := decide_eq_true (HJ.out.2 hmem)
     have hg2 : decide (0 ≤ j) = true := decide_eq_true (HJ.out.2 hmem)
     have HB7 := Aside0.mk (below_more HB7.out HBX.out)
     clear HJ hmem
     have hn30 := HN30.out
     go_wp2
     go_roundw
     case rel => exact ⟨i + 1, by go_num, by omega, HB7⟩
     case measure => simp [intOf]; omega
    ·
     have hg1 : decide (j ≥ 0) = false := decide_eq_false fun h => hmem (HJ.out.1 h)
     have hg2 : decide (0 ≤ j) = false := decide_eq_false fun h => hmem (HJ.out.1 h)
     have HNM := Aside0.mk hmem
     have HXO : Aside0 (nodeOk x = true) := ⟨(store_of HS.out).ok x (List.mem_of_getElem? Hx.out)⟩
     obtain ⟨ys, Hys⟩ : ∃ ys, Aside0 (putN x xs = ys) := ⟨_, ⟨rfl⟩⟩
     obtain ⟨q, Hq⟩ : ∃ q, Aside0 (ys.length = q) := ⟨_, ⟨rfl⟩⟩
     have HQ : Aside0 (q = m + 1) := ⟨by rw [← Hq.out, ← Hys.out, putN_length, Hm.out]⟩
     have HYF : Aside0 (¬ faultsOf ys = []) := ⟨by
      rw [← Hys.out, ← Hxs.out]
      exact put_faulty HS.out (List.mem_of_getElem? Hx.out) (by rw [Hxs.out]; exact HNM.out)⟩
     have hcall := store_Put.calls Ax cx xs x ys W1 (Kd.C_below HX.out.2 HBX.out) HX.out.1 (by have := Hm.out; have := HMN.out; omega) HXS.out HXO.out HNM.out (by rw [← Hys.out]; exact (putN_perm x xs).trans (List.perm_append_singleton x xs).symm) (by rw [← Hys.out]; exact putN_inc (store_of HXS.out).inc HNM.out)
     rw [Hm.out] at hcall
     have HCALL := Aside0.mk hcall
     clear hcall HJ hmem
     obtain ⟨x0, x1, x2, x3, x4, x5⟩ := box_cells HXB.out
     go_wp2_with fail
     clear x0 x1 x2 x3 x4 x5
     refine HCALL.out.mono ?_
     rintro e W2 ⟨vy, rfl, hoy, hb⟩
     have HBX := Aside0.mk (below_more HBX.out hb)
     obtain ⟨Ay, cy, rfl⟩ := Kd.R_slice hoy
     have hy := (Kd.R_reads' hoy).2
     have hcall := shape_Well.calls Ay cy ys false W2 hy.2 hy.1 (well_no (by have := Hq.out; have := HQ.out; have := HMN.out; omega) HYF.out)
     rw [Hq.out] at hcall
     rw [Hq.out]
     have HCALL := Aside0.mk hcall
     clear hb hcall hoy hy
     go_wp2_with fail
     refine HCALL.out.mono ?_
     rintro e W3 ⟨rfl, hb⟩
     have HB7 := Aside0.mk (below_more HB7.out (below_more HBX.out hb))
     clear hb HCALL
     have hn30 := HN30.out
     go_wp2
     go_roundw
     case rel => exact ⟨i + 1, by go_num, by omega, HB7⟩
     case measure => simp [intOf]; omega
   ·
    obtain rfl : i = n := by omega
    clear HX
    go_wp2_with fail
    refine (K13.known.walk _ (HW.out.below HB.out)).mono ?_
    rintro e W9 ⟨rfl, hd⟩
    go_wp2
    go_ret
    exact ⟨rfl, below_more HB.out hd⟩
 ·
  have hcall := shape_Well.calls A0 c0 ll false w HR.out HC.out (well_no (by have := HL.out; omega) hF)
  rw [Hn.out] at hcall ⊢
  have HCALL := Aside0.mk hcall
  clear hcall hr0 hc0 hF
  go_enter Tryz.func3, Tryz.ntmps3
  go_wp2_with fail
  refine HCALL.out.mono ?_
  rintro e WV ⟨rfl, hb⟩
  have HB := Aside0.mk (below_more HB.out hb)
  clear hb HCALL
  go_wp2_with fail
  by_cases hs : storeOk ll = true
  ·
   have HS := Aside0.mk hs
   clear hs
   obtain ⟨xs, Hxs⟩ : ∃ xs, Aside0 (wholeOf ll = xs) := ⟨_, ⟨rfl⟩⟩
   obtain ⟨m, Hm⟩ : ∃ m, Aside0 (xs.length = m) := ⟨_, ⟨rfl⟩⟩
   have HMN : Aside0 (m ≤ 30) := ⟨by have h1 := wholeOf_le ll; have h2 := HL.out; rw [Hxs.out, Hm.out] at h1; omega⟩
   have HXF : Aside0 (faultsOf xs = []) := ⟨by rw [← Hxs.out]; exact whole_faults HS.out⟩
   have HXS : Aside0 (storeOk xs = true) := ⟨by rw [← Hxs.out]; exact whole_store HS.out⟩
   have hcall := shape_Whole.calls A0 c0 ll xs 0 WV (Kd.C_below HR.out HB.out) HC.out (by unfold shape_Whole.f; rw [if_pos (by have := HL.out; omega), if_pos HS.out, Hxs.out])
   rw [Hn.out] at hcall
   have HCALL := Aside0.mk hcall
   clear hcall
   go_wp2_with fail
   refine HCALL.out.mono ?_
   rintro e V4 ⟨vx, rfl, hox, hb⟩
   have HB := Aside0.mk (below_more HB.out hb)
   obtain ⟨Ax, cx, rfl⟩ := Kd.R_slice hox
   have HX := Aside0.mk (Kd.R_reads' hox).2
   clear hb HCALL hox
   have hcall := store_Valid.calls A0 c0 ll true V4 (Kd.C_below HR.out HB.out) HC.out (by unfold store_Valid.f; rw [if_pos (by have := HL.out; omega), HS.out])
   rw [Hn.out] at hcall
   rw [Hm.out]
   have HCALL := Aside0.mk hcall
   clear hcall
   go_wp2_with fail
   refine HCALL.out.mono ?_
   rintro e V5 ⟨rfl, hb⟩
   have HB := Aside0.mk (below_more HB.out hb)
   have HX := Aside0.mk (show xs.length ≤ cx ∧ Kd.C k35 V5 Ax xs.length xs from ⟨HX.out.1, Kd.C_below HX.out.2 hb⟩)
   clear hb HCALL
   have hcall := shape_Well.calls Ax cx xs true V5 HX.out.2 HX.out.1 (well_yes (by have := Hm.out; have := HMN.out; omega) HXF.out)
   rw [Hm.out] at hcall
   have HCALL := Aside0.mk hcall
   clear hcall
   go_wp2_with fail
   refine HCALL.out.mono ?_
   rintro e V6 ⟨rfl, hb⟩
   have HB := Aside0.mk (below_more HB.out hb)
   have HX := Aside0.mk (show xs.length ≤ cx ∧ Kd.C k35 V6 Ax xs.length xs from ⟨HX.out.1, Kd.C_below HX.out.2 hb⟩)
   clear hb HCALL
   have hcall := redpencillaw13_whole.calls 1000 Ax cx xs Ax cx xs 0 true V6 HX.out.2 HX.out.1 HX.out.2 HX.out.1 (whole_same (by have := Hm.out; have := HMN.out; omega) HXF.out)
   rw [Hm.out] at hcall
   have HCALL := Aside0.mk hcall
   clear hcall
   go_wp2_with fail
   refine HCALL.out.mono ?_
   rintro e V7 ⟨rfl, hb⟩
   have HB := Aside0.mk (below_more HB.out hb)
   have HX := Aside0.mk (show xs.length ≤ cx ∧ Kd.C k35 V7 Ax xs.length xs from ⟨HX.out.1, Kd.C_below HX.out.2 hb⟩)
   clear hb HCALL
   go_wp2_with fail
   have hu := Tryz.underlying35
   have hu2 := Tryz.underlying33
   go_loopw [89] (fun v wr => ∃ i : Nat, v = .int .i64 i ∧ i ≤ n ∧ Aside0 (Below V7.heap.size V7 wr)) (fun v _ => n - (intOf v).toNat)
   case atStart => exact ⟨0, rfl, Nat.zero_le _, ⟨Below.refl _ _⟩⟩
   case round =>
    obtain ⟨i, rfl, hin, HB7⟩ := hrel
    have HN30 : Aside0 (n ≤ 30) := ⟨by have := HL.out; have := Hn.out; omega⟩
    have HB := Aside0.mk (below_more HB.out HB7.out)
    have HX := Aside0.mk (show xs.length ≤ cx ∧ Kd.C k35 wr Ax xs.length xs from ⟨HX.out.1, Kd.C_below HX.out.2 HB7.out⟩)
    by_cases hlt : i < n
    ·
     obtain ⟨x, Hx⟩ : ∃ x, Aside0 (ll[i]? = some x) := ⟨_, ⟨List.getElem?_eq_getElem (by rw [Hn.out]; exact hlt)⟩⟩
     obtain ⟨ad, e, h0, h1, h2, h3, h4, h5⟩ := node_at HRN.out HB.out i x Hx.out
     subst e
     have HXB := Aside0.mk (blk_new wr (boxN x))
     have HBX := Aside0.mk (below_alloc (Below.refl _ wr) (boxN x))
     obtain ⟨j, hj, hjj⟩ := find_yes (l := xs) (by have := Hm.out; have := HMN.out; omega) (d := x.f0) (k := 1000) (by have := Hm.out; have := HMN.out; omega)
     have hcall := redpencilref10_Find.calls 1000 Ax cx xs x.f0.f0 x.f0.f1 j (wr.alloc (boxN x)) (Kd.C_below HX.out.2 HBX.out) HX.out.1 hj
     rw [Hm.out] at hcall
     have HCALL := Aside0.mk hcall
     have HJ := Aside0.mk hjj
     clear hcall hj hjj
     go_wp2_with fail
     clear h0 h1 h2 h3 h4 h5
     refine HCALL.out.mono ?_
     rintro e W1 ⟨rfl, hb⟩
     have HXB := Aside0.mk (blk_keep HXB.out hb)
     have HBX := Aside0.mk (below_more HBX.out hb)
     clear hb HCALL
     by_cases hmem : x.f0 ∈ xs.map (·.f0)
     ·
      have hg1 : decide (j ≥ 0) = true := decide_eq_true (HJ.out.2 hmem)
      have hg2 : decide (0 ≤ j) = true := decide_eq_true (HJ.out.2 hmem)
      have HB7 := Aside0.mk (below_more HB7.out HBX.out)
      clear HJ hmem
      have hn30 := HN30.out
      go_wp2
      go_roundw
      case rel => exact ⟨i + 1, by go_num, by omega, HB7⟩
      case measure => simp [intOf]; omega
     ·
      have hg1 : decide (j ≥ 0) = false := decide_eq_false fun h => hmem (HJ.out.1 h)
      have hg2 : decide (0 ≤ j) = false := decide_eq_false fun h => hmem (HJ.out.1 h)
      have HNM := Aside0.mk hmem
      have HXO : Aside0 (nodeOk x = true) := ⟨(store_of HS.out).ok x (List.mem_of_getElem? Hx.out)⟩
      obtain ⟨ys, Hys⟩ : ∃ ys, Aside0 (putN x xs = ys) := ⟨_, ⟨rfl⟩⟩
      obtain ⟨q, Hq⟩ : ∃ q, Aside0 (ys.length = q) := ⟨_, ⟨rfl⟩⟩
      have HQ : Aside0 (q = m + 1) := ⟨by rw [← Hq.out, ← Hys.out, putN_length, Hm.out]⟩
      have HYF : Aside0 (¬ faultsOf ys = []) := ⟨by
       rw [← Hys.out, ← Hxs.out]
       exact put_faulty HS.out (List.mem_of_getElem? Hx.out) (by rw [Hxs.out]; exact HNM.out)⟩
      have hcall := store_Put.calls Ax cx xs x ys W1 (Kd.C_below HX.out.2 HBX.out) HX.out.1 (by have := Hm.out; have := HMN.out; omega) HXS.out HXO.out HNM.out (by rw [← Hys.out]; exact (putN_perm x xs).trans (List.perm_append_singleton x xs).symm) (by rw [← Hys.out]; exact putN_inc (store_of HXS.out).inc HNM.out)
      rw [Hm.out] at hcall
      have HCALL := Aside0.mk hcall
      clear hcall HJ hmem
      obtain ⟨x0, x1, x2, x3, x4, x5⟩ := box_cells HXB.out
      go_wp2_with fail
      clear x0 x1 x2 x3 x4 x5
      refine HCALL.out.mono ?_
      rintro e W2 ⟨vy, rfl, hoy, hb⟩
      have HBX := Aside0.mk (below_more HBX.out hb)
      obtain ⟨Ay, cy, rfl⟩ := Kd.R_slice hoy
      have hy := (Kd.R_reads' hoy).2
      have hcall := shape_Well.calls Ay cy ys false W2 hy.2 hy.1 (well_no (by have := Hq.out; have := HQ.out; have := HMN.out; omega) HYF.out)
      rw [Hq.out] at hcall
      rw [Hq.out]
      have HCALL := Aside0.mk hcall
      clear hb hcall hoy hy
      go_wp2_with fail
      refine HCALL.out.mono ?_
      rintro e W3 ⟨rfl, hb⟩
      have HB7 := Aside0.mk (below_more HB7.out (below_more HBX.out hb))
      clear hb HCALL
      have hn30 := HN30.out
      go_wp2
      go_roundw
      case rel => exact ⟨i + 1, by go_num, by omega, HB7⟩
      case measure => simp [intOf]; omega
    ·
     obtain rfl : i = n := by omega
     clear HX
     go_wp2_with fail
     refine (K13.known.walk _ (HW.out.below HB.out)).mono ?_
     rintro e W9 ⟨rfl, hd⟩
     go_wp2
     go_ret
     exact ⟨rfl, below_more HB.out hd⟩
  ·
   have HS : Aside0 (storeOk ll = false) := ⟨by cases h : storeOk ll with | false => rfl | true => exact absurd h hs⟩
   clear hs
   have hcall := shape_Whole.calls A0 c0 ll [] 2 WV (Kd.C_below HR.out HB.out) HC.out (by unfold shape_Whole.f; rw [if_pos (by have := HL.out; omega), if_neg (by rw [HS.out]; decide)])
   rw [Hn.out] at hcall
   have HCALL := Aside0.mk hcall
   clear hcall
   go_wp2_with fail
   refine HCALL.out.mono ?_
   rintro e V4 ⟨vx, rfl, hox, hb⟩
   have HB := Aside0.mk (below_more HB.out hb)
   obtain ⟨Ax, cx, rfl⟩ := Kd.R_slice hox
   clear hb HCALL hox
   rw [List.length_nil]
   have hcall := store_Valid.calls A0 c0 ll false V4 (Kd.C_below HR.out HB.out) HC.out (by unfold store_Valid.f; rw [if_pos (by have := HL.out; omega), HS.out])
   rw [Hn.out] at hcall
   have HCALL := Aside0.mk hcall
   clear hcall
   go_wp2_with fail
   refine HCALL.out.mono ?_
   rintro e V5 ⟨rfl, hb⟩
   have HB := Aside0.mk (below_more HB.out hb)
   clear hb HCALL
   go_wp2_with fail
   refine (K13.known.walk _ (HW.out.below HB.out)).mono ?_
   rintro e W9 ⟨rfl, hd⟩
   go_wp2
   go_ret
   exact ⟨rfl, below_more HB.out hd⟩
end Go.Proofs.YtdheokololpnbaaGreatDoor.PWalk
end
section
namespace Go.Proofs.YtdheokololpnbaaGreatDoor.formHolds
open Go.ChangeShapes Go.WideShapes Go.ChangeAt Go.RowKit
open Go.ChangeMaps (open_string shut_string)
open Go.Proofs.YtdheokololpnbaaGreatDoorW.PrintWords
set_option linter.unusedVariables false
theorem own : ownKnob Tryz.prog.godebug = none := by kernel_rfl
theorem laidOut : laidOutB Tryz.prog = true := by kernel_rfl
theorem gWords : Tryz.prog.globalNamed "redpencil/shape.words" = some 0 := by kernel_rfl
theorem gWordsType : (Tryz.prog.globals[0]?).map (·.type) = some 67 := by kernel_rfl
theorem cellsStr : Tryz.prog.cellsOf 9 = 1 := by kernel_rfl
theorem cellsWords : Tryz.prog.cellsOf 67 = 5 := by kernel_rfl
/-- The settled world, the variable holding what its initialiser lays: the witness. -/
noncomputable def laidWorld (os : Os) : World :=
 { World.holding Tryz.prog os ⟨#[], #[], []⟩ with heap := (World.holding Tryz.prog os ⟨#[], #[], []⟩).heap.modify 0 fun
   | .cells _ t frozen => .cells (PWalk.wordList.map fun z => Value.string z).toArray t frozen
   | o => o }
theorem bytes_eq {a b : ByteArray} (h : a.data.toList = b.data.toList) : a = b := by
 cases a; cases b; simp at h; subst h; rfl
/-- The row's condition, as the walks ask for it. -/
theorem words_of_laid {W : World} (h : laidMetH Tryz.prog [("redpencil/shape.words", Rows.laid_redpencil_shape_words)] W) : PWalk.WordsAt W := by
 have h' : laidMet Tryz.prog (("redpencil/shape.words", .agg ((PWalk.wordList.map (·.data.toList)).map fun s => .lit (.string s))) :: []) W := h
 intro i s hs
 obtain ⟨b, hb, e⟩ := LaidStr.cell_of_laid gWords gWordsType Tryz.underlying67 Tryz.underlying9 cellsStr cellsWords h' i s.data.toList (by rw [List.getElem?_map, hs]; rfl)
 rw [hb, bytes_eq e]
theorem six_of {α : Type} {cs : List α} (h : cs.length = 6) : ∃ c0 c1 c2 c3 c4 c5, cs = [c0, c1, c2, c3, c4, c5] := by
 match cs, h with
 | [a, b, c, d, e, f], _ => exact ⟨a, b, c, d, e, f, rfl⟩
theorem open_node {H : Type} {enc : TypeId × Value → H} {W : World} {base : Nat} {sp : Nat → Bool} {held : Bool} {fuel : Nat} {cs : List Value} {x : DataW H × List MemPlace} (h : DataW.trod enc Tryz.prog W base sp held fuel 35 cs = some x) :
  ∃ n : PWalk.Node, cs = PWalk.nodeCells n ∧ PWalk.runeIn n.f3 := by
 have e37 : Tryz.prog.cellsOf 35 = 6 := by kernel_rfl
 have e35 : Tryz.prog.cellsOf 33 = 2 := by kernel_rfl
 have e3 : Tryz.prog.cellsOf 3 = 1 := by kernel_rfl
 have e21 : Tryz.prog.cellsOf 21 = 1 := by kernel_rfl
 obtain ⟨y0, y1, y2, y3, n, rfl, hl, h0, h1, h2, h3⟩ := Go.Joins.trod_struct4 Tryz.underlying35 h
 rw [e37] at hl
 obtain ⟨c0, c1, c2, c3, c4, c5, rfl⟩ := six_of hl
 simp only [e35, e3, e21, List.drop_zero, List.drop_succ_cons, List.take_succ_cons, List.take_zero] at h0 h1 h2 h3
 obtain ⟨_, _, _, _, _, g0, g1⟩ := trod_struct2 Tryz.underlying33 h0
 obtain ⟨_, _, _, _, _, g2, g3⟩ := trod_struct2 Tryz.underlying33 h1
 simp only [e3, List.drop_zero, List.drop_succ_cons, List.take_succ_cons, List.take_zero] at g0 g1 g2 g3
 obtain ⟨k0, i0, _, _⟩ := DataW.trod_int Tryz.underlying3 g0
 obtain ⟨k1, i1, _, _⟩ := DataW.trod_int Tryz.underlying3 g1
 obtain ⟨k2, i2, _, _⟩ := DataW.trod_int Tryz.underlying3 g2
 obtain ⟨k3, i3, _, _⟩ := DataW.trod_int Tryz.underlying3 g3
 obtain ⟨k4, i4, _, _⟩ := DataW.trod_int Tryz.underlying3 h2
 obtain ⟨k5, i5, _, hw⟩ := DataW.trod_int Tryz.underlying21 h3
 simp only [List.cons.injEq, and_true] at i0 i1 i2 i3 i4 i5
 subst i0 i1 i2 i3 i4 i5
 refine ⟨⟨⟨k0, k1⟩, ⟨k2, k3⟩, k4, k5⟩, rfl, ?_⟩
 have hw2 : -2147483648 ≤ k5 ∧ k5 ≤ 2147483647 := by simpa [Lit.wf, IntKind.min, IntKind.max, IntKind.signed, IntKind.bits] using hw
 exact ⟨by show _ ≤ k5; omega, by show k5 ≤ _; omega⟩
/-- A []api.Node that came in, nil or not. -/
theorem open_nodes {H : Type} {enc : TypeId × Value → H} {W : World} {A : Option Addr} {len cap : Nat} {x : DataW H × List MemPlace} {fuel : Nat} (h : DataW.trod enc Tryz.prog W 0 (fun _ => true) true fuel 22 [.slice A len cap] = some x) :
  ∃ xs : List PWalk.Node, xs.length = len ∧ Kd.C PWalk.k35 W A len xs ∧ len ≤ cap ∧ ∀ n ∈ xs, PWalk.runeIn n.f3 := by
 have e37 : Tryz.prog.cellsOf 35 = 6 := by kernel_rfl
 rcases Go.Deep.open_slice Tryz.underlying22 h with ⟨hcs, _⟩ | ⟨a, len', cap', m, n, D, Pl, hcs, _, hl, hm, hmm, _, hx⟩
 ·
  simp at hcs
  obtain ⟨rfl, rfl, rfl⟩ := hcs
  exact ⟨[], rfl, ⟨rfl, by omega, fun hp => absurd hp (by omega)⟩, Nat.le_refl _, fun n hn => by cases hn⟩
 ·
  simp at hcs
  obtain ⟨rfl, rfl, rfl⟩ := hcs
  simp only [if_true] at hmm
  subst hmm
  rw [e37] at hx
  haveI : Inhabited PWalk.Node := ⟨⟨⟨0, 0⟩, ⟨0, 0⟩, 0, 0⟩⟩
  obtain ⟨N, hN⟩ := Go.Deep.choose_lt (α := PWalk.Node) (n := len) (p := fun i nd => PWalk.runeIn nd.f3 ∧ ∀ j u, (PWalk.nodeCells nd)[j]? = some u → W.cell? (a.add (i * 6 + j)) = some u) (fun i hi => by
   obtain ⟨cs', h1, h2⟩ := hx i (by omega)
   obtain ⟨nd, rfl, hr⟩ := open_node h2
   refine ⟨nd, hr, fun j u hu => ?_⟩
   obtain ⟨_, hlen, hc⟩ := World.cells?_some h1
   have hj : j < 6 := (List.getElem?_eq_some_iff.1 hu).1
   rw [← Addr.add_add a (i * 6) j]
   rw [← hu]
   exact hc j (by simpa using hj))
  refine ⟨(List.range len).map N, by simp, ⟨by simp, Nat.le_trans hl hm, fun hp => ⟨a, rfl, fun i nd hi => ?_⟩⟩, hl, fun nd hnd => ?_⟩
  ·
   have hil : i < len := by simpa using (List.getElem?_eq_some_iff.1 hi).1
   have hnd : nd = N i := by simpa [hil] using hi.symm
   subst hnd
   refine ⟨PWalk.nodeCells (N i), rfl, PWalk.k35.K_of_M (PWalk.k35_mkM W 0 (fun _ => True) (N i)), fun j u hu => (hN i hil).2 j u hu⟩
  ·
   obtain ⟨i, hi, rfl⟩ := List.mem_map.1 hnd
   exact (hN i (by simpa using hi)).1
theorem laid_met (os : Os) (args : Array Value) : laidMet Tryz.prog Rows.formHoldsRow.laid ((laidWorld os).forCall (fun _ _ => 0) ⟨#[], args, []⟩).memory :=
 laidMet_of_run' 8 (by kernel_rfl) (by kernel_rfl)
theorem witness_row (os : Os) {H : Type} (enc : TypeId × Value → H) :
  (OpenSpec.ofChange Rows.formHoldsSpec).preRow enc Tryz.prog Tryz.f3 Rows.formHoldsRow.domain false Rows.formHoldsRow.laid ((laidWorld os).forCall (fun _ _ => 0) ⟨#[], #[.slice none 0 0], []⟩).memory #[.slice none 0 0] := by
 have hw : (DataW.whole enc Tryz.prog ((laidWorld os).forCall (fun _ _ => 0) ⟨#[], #[.slice none 0 0], []⟩).memory Tryz.f3.params.toList (OpenSpec.ofChange Rows.formHoldsSpec).vars false #[Value.slice none 0 0].toList 8).map (fun x => (x.1, x.2.1)) =
   some ([.nil], []) := by kernel_rfl
 obtain ⟨⟨x1, x2, x3⟩, hx, hx1⟩ := Option.map_eq_some_iff.1 hw
 simp only [Prod.mk.injEq] at hx1
 obtain ⟨rfl, rfl⟩ := hx1
 exact OpenSpec.preRow_of_cond 8 hx (by kernel_rfl) (fun k hk => by cases hk) (by kernel_rfl) (laid_met os _)
set_option maxRecDepth 100000 in
set_option maxHeartbeats 2000000 in
theorem lifted (os : Os) (started : os.Started) (H : Type) (enc : TypeId × Value → H) (F : Stop.Interp) :
  ReturnsInHanded {} Tryz.checked os 3 .any ((OpenSpec.ofChange Rows.formHoldsSpec).preRow enc Tryz.prog Tryz.f3 Rows.formHoldsRow.domain false Rows.formHoldsRow.laid) (((OpenSpec.ofChange Rows.formHoldsSpec).at F).post enc Tryz.prog Tryz.f3 false true false false) := by
 refine returnsInHanded_of_row (C := Tryz.checked) (s := OpenSpec.ofChange Rows.formHoldsSpec) own started (by kernel_rfl) Tryz.func3
  (witness_row_at (enc := enc) (C := Tryz.checked) false (laidWorld os) #[.slice none 0 0] rfl (by kernel_rfl) (by kernel_rfl) (by kernel_rfl) (witness_row os enc)) ?_
 intro W base args ds gs before hval0 hW _ _ hsz0 hL _ _
 have hval : ∀ (j : Nat) t v, Tryz.f3.params[j]? = some t → args[j]? = some v → Value.okWide Tryz.prog W .any base t v := hval0
 have hW' := hW
 obtain ⟨p, q, hA0, hV, rfl, hfz, hnd⟩ := hW
 have hA : DataW.TrodAll enc Tryz.prog W 0 (fun _ => true) true Tryz.f3.params.toList args.toList ds p := hA0
 rw [Tryz.params3] at hA hval
 obtain ⟨v0, vs0, d0, ds0, p0, q0, hargs, rfl, rfl, h0, r0⟩ := trodAll_cons hA
 obtain ⟨rfl, rfl, rfl⟩ := trodAll_nil r0
 obtain rfl : args = #[v0] := by cases args; simp_all
 obtain ⟨rfl, rfl⟩ := trodVars_none hV
 obtain ⟨A0, len0, cap0, rfl⟩ := okWide_slice Tryz.underlying22 (hval 0 22 v0 rfl rfl)
 have k0 := h0
 have lt0 : ∀ x ∈ p0, x.block < W.heap.size := by obtain ⟨m, hm⟩ := k0; exact DataW.trod_lt m _ _ _ hm
 obtain ⟨f0, hf0⟩ := h0
 obtain ⟨xs, rfl, hr, hc, hi⟩ := open_nodes hf0
 clear hA0 hval0 hsz0
 refine (PWalk.FormHolds.walk A0 cap0 xs W hr hc hi (words_of_laid hL)).mono fun e W' ⟨he, bel⟩ => ?_
 subst he
 exact ⟨_, rfl, _, _, _, [], _, [], hW', trodAll_mk1 (shut_bool Tryz.underlying4 _), (trodAll_cons_mk (Below.trod laidOut (by kernel_rfl) (of_decide_eq_true (by kernel_rfl)) k0 bel lt0) trodAll_mk0), rfl, bel.frame _, fun h => by cases h⟩
theorem over : Rows.formHoldsRow.holds Tryz.pinned (OpenSpec.ofChange Rows.formHoldsSpec) :=
 OpenClaim.holds_of_cond 3 Tryz.f3 rfl rfl rfl rfl rfl rfl rfl ⟨rfl, rfl, rfl, rfl, rfl⟩ rfl rfl rfl rfl rfl (by kernel_rfl) Tryz.func3 (by kernel_rfl)
  (of_decide_eq_true (by kernel_rfl)) (by unfold Func.isWrapper; first | (rw [if_pos (by decide +kernel)]; kernel_rfl) | (rw [if_neg (by decide +kernel)]; exact ⟨rfl, rfl⟩))
  (fun os started H enc _ F0 => by rw [OpenClaim.pre_eq_preRow]; exact lifted os started H enc F0)
theorem proved : Rows.FormHoldsCardSaid :=
 Claim7.holds_tied_plain_at .later [] [.data] true (true, "c167acef16e33df87c816861fd84bcc807800d6559946381e878c112beccb0bf") false
  over (fun _ h => by cases h) (by kernel_rfl) (fun _ h => by cases h) formHolds_row_tie rfl ⟨rfl, rfl⟩ (by kernel_rfl) rfl
  (fun f fn hf hfn => by
   obtain rfl : f = 3 := Option.some.inj ((show Tryz.prog.funcNamed "redpencil/redpencillaw13.FormHolds" = some 3 by kernel_rfl).symm.trans hf) |>.symm
   obtain rfl : fn = Tryz.f3 := (Option.some.inj (Tryz.func3.symm.trans hfn)).symm
   exact ⟨by kernel_rfl, fun j t ht => by
    rw [Tryz.params3] at ht
    have h3 : t = 22 := by
     rcases j with _ | j
     ·
      simpa using ht.symm
     ·
      simp at ht
    subst h3
    exact (show Tryz.prog.wantsStandIn 22 = false by kernel_rfl)⟩)
  (by kernel_rfl)
#print axioms proved
end Go.Proofs.YtdheokololpnbaaGreatDoor.formHolds
end
